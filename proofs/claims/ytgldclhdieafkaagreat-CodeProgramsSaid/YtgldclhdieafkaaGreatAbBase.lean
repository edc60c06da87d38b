/- The abstract values and states of Go data, and how they stand to the model's memory. -/
import Derived.Tactics
import Derived.Orders
import Derived.Below
import Derived.Laws.Rows
import Derived.RangeFuncLeaves
namespace Go.Ab
open Go.RowKit
abbrev Hp := Nat → Option Obj
inductive D where
 | int (k : IntKind) (n : Int)
 | bool (b : Bool)
 | str (s : ByteArray)
 | list (tight : Bool) (n : Nat) (xs : List D)
 | nilP
 | nilF
inductive PV where
 | d (x : D)
 | ptr (i off : Nat)
 | row (i n : Nat)
 | view (i off n : Nat)
 | yld (i : Nat)
 | mapv (i : Nat)
 | pp (cs : List D)
 | fn (f : Fn) (first caps : List PV)
 | agg (cs : List PV)
 | dagg (cs : List D)
 | tup (vs : List PV)
 | undef
inductive RelD (hz : Hp) : Value → D → Prop where
 | int (k : IntKind) (n : Int) : RelD hz (.int k n) (.int k n)
 | bool (b : Bool) : RelD hz (.bool b) (.bool b)
 | str (s : ByteArray) : RelD hz (.string s) (.str s)
 | nilP : RelD hz (.pointer none) .nilP
 | nilF : RelD hz .nilFunc .nilF
 | list0 (a : Option Addr) (cap : Nat) (tight : Bool) (ht : tight = true → cap = 0) (hm : cap ≤ maxLen) : RelD hz (.slice a 0 cap) (.list tight 0 [])
 | list (g off n cap : Nat) (tight : Bool) (xs : List D) (arr : Array Value) (e : TypeId) (fr : Nat × Nat) (f : Nat → Value)
     (hg : hz g = some (.cells arr e fr)) (hn : n ≤ cap) (hm : cap ≤ maxLen) (ht : tight = true → cap = n)
     (hx : ∀ j x,xs[j]? = some x → arr[off + j]? = some (f j)) (hr : ∀ j x,xs[j]? = some x → RelD hz (f j) x) :
     RelD hz (.slice (some ⟨g,off,none⟩) n cap) (.list tight n xs)
abbrev Phi := Nat → Option (Option (Nat × Nat))
inductive RelV (hz : Hp) (φ : Phi) : Value → PV → Prop where
 | d {v : Value} {x : D} (h : RelD hz v x) : RelV hz φ v (.d x)
 | ptr (i off g c : Nat) (h : φ i = some (some (g,c))) : RelV hz φ (.pointer (some ⟨g,off,none⟩)) (.ptr i off)
 | row (i n g cap : Nat) (h : φ i = some (some (g,cap))) (hn : n ≤ cap) (hm : cap ≤ maxLen) : RelV hz φ (.slice (some ⟨g,0,none⟩) n cap) (.row i n)
 | rowNil (i : Nat) (a : Option Addr) (h : φ i = some none) : RelV hz φ (.slice a 0 0) (.row i 0)
 | view (i off n g c cap : Nat) (h : φ i = some (some (g,c))) (hn : n ≤ cap) (hm : cap ≤ maxLen) : RelV hz φ (.slice (some ⟨g,off,none⟩) n cap) (.view i off n)
 | viewNil (i off : Nat) (a : Option Addr) (h : φ i = some none) : RelV hz φ (.slice a 0 0) (.view i off 0)
 | yld (i l c : Nat) (h : φ i = some (some (l,c))) : RelV hz φ (.func (.yield l) #[] #[]) (.yld i)
 | mapv (i g c : Nat) (h : φ i = some (some (g,c))) : RelV hz φ (.map (some g)) (.mapv i)
 | pp (g off : Nat) (cs : List D) (arr : Array Value) (e : TypeId) (fr : Nat × Nat) (f : Nat → Value) (hg : hz g = some (.cells arr e fr))
     (hx : ∀ j x,cs[j]? = some x → arr[off + j]? = some (f j)) (hr : ∀ j x,cs[j]? = some x → RelD hz (f j) x) :
     RelV hz φ (.pointer (some ⟨g,off,none⟩)) (.pp cs)
 | fn (f : Fn) (first caps : Array Value) (first' caps' : List PV) (h1 : first.size = first'.length) (h2 : caps.size = caps'.length)
     (r1 : ∀ j x,first'[j]? = some x → RelV hz φ (first.getD j undef) x) (r2 : ∀ j x,caps'[j]? = some x → RelV hz φ (caps.getD j undef) x) :
     RelV hz φ (.func f first caps) (.fn f first' caps')
 | agg (cs : Array Value) (cs' : List PV) (h : cs.size = cs'.length) (r : ∀ j x,cs'[j]? = some x → RelV hz φ (cs.getD j undef) x) : RelV hz φ (.agg cs) (.agg cs')
 | dagg (cs : Array Value) (cs' : List D) (h : cs.size = cs'.length) (r : ∀ j x,cs'[j]? = some x → RelD hz (cs.getD j Go.undef) x) : RelV hz φ (.agg cs) (.dagg cs')
 | tup (cs : Array Value) (cs' : List PV) (h : cs.size = cs'.length) (r : ∀ j x,cs'[j]? = some x → RelV hz φ (cs.getD j undef) x) : RelV hz φ (.tuple cs) (.tup cs')
 | undef (v : Value) : RelV hz φ v .undef
def Hp.le (h h' : Hp) : Prop := ∀ g o,h g = some o → h' g = some o
theorem Hp.le_refl (h : Hp) : Hp.le h h := fun _ _ x => x
theorem Hp.le_trans {a b c : Hp} (h : Hp.le a b) (k : Hp.le b c) : Hp.le a c := fun g o x => k g o (h g o x)
theorem RelD.mono {hz hz' : Hp} (hl : Hp.le hz hz') {v : Value} {x : D} (h : RelD hz v x) : RelD hz' v x := by
 induction h with
 | int k n => exact .int k n
 | bool b => exact .bool b
 | str s => exact .str s
 | nilP => exact .nilP
 | nilF => exact .nilF
 | list0 a cap tight ht hm => exact .list0 a cap tight ht hm
 | list g off n cap tight xs arr e fr f hg hn hm ht hx hr ih => exact .list g off n cap tight xs arr e fr f (hl _ _ hg) hn hm ht hx ih
def Phi.le (φ φ' : Phi) : Prop := ∀ i r,φ i = some r → φ' i = some r
def D.loose : D → D
 | .list _ n xs => .list false n xs
 | x => x
def D.looses : List D → List D
 | [] => []
 | x :: l => x.loose :: D.looses l
theorem MU : ∀ {l : List D} {j : Nat} {y : D},(D.looses l)[j]? = some y → ∃ x,l[j]? = some x ∧ y = x.loose
 | [],j,y,h => by simp [D.looses] at h
 | x :: l,0,y,h => by simp [D.looses] at h; exact ⟨x,rfl,h.symm⟩
 | x :: l,j + 1,y,h => by simp [D.looses] at h; simpa using MU h
theorem Ld : ∀ (l : List D),(D.looses l).length = l.length
 | [] => rfl
 | x :: l => by simp [D.looses,Ld l]
theorem RelD.loose {hz : Hp} {v : Value} {x : D} (h : RelD hz v x) : RelD hz v x.loose := by
 cases h with
 | int k n => exact .int k n
 | bool b => exact .bool b
 | str s => exact .str s
 | nilP => exact .nilP
 | nilF => exact .nilF
 | list0 a cap tight ht hm => exact .list0 a cap false (fun h => by cases h) hm
 | list g off n cap tight xs arr e fr f hg hn hm ht hx hr => exact .list g off n cap false xs arr e fr f hg hn hm (fun h => by cases h) hx hr
theorem Phi.le_refl (φ : Phi) : Phi.le φ φ := fun _ _ h => h
theorem RelV.mono {hz hz' : Hp} {φ φ' : Phi} (hl : Hp.le hz hz') (hφ : Phi.le φ φ') {v : Value} {x : PV} (h : RelV hz φ v x) : RelV hz' φ' v x := by
 induction h with
 | d h => exact .d (h.mono hl)
 | ptr i off g c h => exact .ptr i off g c (hφ _ _ h)
 | row i n g cap h hn hm => exact .row i n g cap (hφ _ _ h) hn hm
 | rowNil i a h => exact .rowNil i a (hφ _ _ h)
 | view i off n g c cap h hn hm => exact .view i off n g c cap (hφ _ _ h) hn hm
 | viewNil i off a h => exact .viewNil i off a (hφ _ _ h)
 | yld i l c h => exact .yld i l c (hφ _ _ h)
 | mapv i g c h => exact .mapv i g c (hφ _ _ h)
 | pp g off cs arr e fr f hg hx hr => exact .pp g off cs arr e fr f (hl _ _ hg) hx (fun j x hj => (hr j x hj).mono hl)
 | fn f a b c d h1 h2 _ _ i1 i2 => exact .fn f a b c d h1 h2 i1 i2
 | agg cs cs' h _ ih => exact .agg cs cs' h ih
 | dagg cs cs' h r => exact .dagg cs cs' h (fun j x hj => (r j x hj).mono hl)
 | tup cs cs' h _ ih => exact .tup cs cs' h ih
 | undef v => exact .undef v
inductive AObj where
 | blk (t : TypeId) (cs : List PV)
 | dblk (t : TypeId) (cs : List D)
 | row (e : TypeId) (sz : Nat) (cs : List D)
 | mark
 | loop (ps : Array Nat) (assign body : Code) (n : Nat) (ks : List Nat) (vs : List PV) (st : LoopState) (pend : Option Code)
 | mp (ks : List D) (vs : List PV)
 | dmp (agg : Bool) (es : List (D × List D))
 | dead
 | ghost (v : Value) (x : PV)
def G8 (hz : Hp) (φ : Phi) (arr : Array Value) (cs : List PV) : Prop := ∀ j x,cs[j]? = some x → RelV hz φ (arr.getD j undef) x
def IZ (hz : Hp) (arr : Array Value) (cs : List D) : Prop := ∀ j x,cs[j]? = some x → RelD hz (arr.getD j undef) x
def RelE (hz : Hp) (agg : Bool) (v : Value) (cs : List D) : Prop :=
 if agg then ∃ arr,v = .agg arr ∧ arr.size = cs.length ∧ IZ hz arr cs else ∃ x,cs = [x] ∧ RelD hz v x
def ObjRel (hz : Hp) (φ : Phi) (w : World) (i : Nat) : AObj → Prop
 | .blk t cs => ∃ g c arr,φ i = some (some (g,c)) ∧ w.heap[g]? = some (.cells arr t (0,0)) ∧ arr.size = cs.length ∧ G8 hz φ arr cs ∧ hz g = none
 | .dblk t cs => ∃ g c arr,φ i = some (some (g,c)) ∧ w.heap[g]? = some (.cells arr t (0,0)) ∧ arr.size = cs.length ∧ IZ hz arr cs ∧ hz g = none
 | .row e sz cs => (φ i = some none ∧ cs = []) ∨
     ∃ g cap arr fr,φ i = some (some (g,cap)) ∧ w.heap[g]? = some (.cells arr e fr) ∧ (∀ j,j < arr.size → ¬ (fr.1 ≤ j ∧ j < fr.2)) ∧ cap ≤ maxLen ∧ cap * sz ≤ arr.size ∧ cs.length ≤ arr.size ∧ IZ hz arr cs ∧ hz g = none
 | .mark => ∃ g c,φ i = some (some (g,c)) ∧ w.heap[g]? = some (.deferred (some [])) ∧ hz g = none
 | .loop ps assign body n ks vs st pend => ∃ g c r,φ i = some (some (g,c)) ∧ w.heap[g]? = some (.loop r) ∧ (r.params = ps ∧ r.assign = assign ∧ r.body = body ∧ r.tmps.size = n ∧ r.state = st ∧ r.pending = pend) ∧
     (∀ (j t : Nat) (x : PV),ks[j]? = some t → vs[j]? = some x → ∃ v,r.tmps[t]? = some v ∧ RelV hz φ v x) ∧ hz g = none
 | .mp ks vs => ∃ (g c : Nat) (es : Array MapEntry) (clock : Nat),φ i = some (some (g,c)) ∧ w.heap[g]? = some (.map es clock) ∧ es.size = ks.length ∧ es.size = vs.length ∧
     (∀ (j : Nat) (k : D),ks[j]? = some k → ∃ e : MapEntry,es[j]? = some e ∧ RelD hz e.key k) ∧ (∀ (j : Nat) (x : PV),vs[j]? = some x → ∃ e : MapEntry,es[j]? = some e ∧ RelV hz φ e.val x) ∧ hz g = none
 | .dmp agg l => ∃ (g c : Nat) (es : Array MapEntry) (clock : Nat),φ i = some (some (g,c)) ∧ w.heap[g]? = some (.map es clock) ∧ es.size = l.length ∧
     (∀ (j : Nat) (p : D × List D),l[j]? = some p → ∃ e : MapEntry,es[j]? = some e ∧ RelD hz e.key p.1 ∧ RelE hz agg e.val p.2) ∧ hz g = none
 | .dead => True
 | .ghost v x => RelV hz φ v x
structure Entry where
 w0 : World
 hz0 : Hp
 own : Nat → Prop
def AObj.live : AObj → Bool | .dead => false | .ghost _ _ => false | _ => true
structure Mem (E : Entry) (hz : Hp) (φ : Phi) (σ : List AObj) (w : World) : Prop where
 knows : ∀ g o,hz g = some o → w.heap[g]? = some o
 objs : ∀ i o,σ[i]? = some o → ObjRel hz φ w i o
 inj : ∀ i j oi oj g c c',σ[i]? = some oi → σ[j]? = some oj → oi.live = true → oj.live = true → φ i = some (some (g,c)) → φ j = some (some (g,c')) → i = j
 new : ∀ i o g c,σ[i]? = some o → o.live = true → φ i = some (some (g,c)) → E.w0.heap.size ≤ g ∨ E.own g
 dom : ∀ i,σ.length ≤ i → φ i = none
 caps : ∀ i g c,φ i = some (some (g,c)) → c ≤ maxLen
 os : w.os = E.w0.os
 tape : w.tape = E.w0.tape
 output : w.output = E.w0.output
 size : E.w0.heap.size ≤ w.heap.size
 kept : ∀ k,k < E.w0.heap.size → ¬ E.own k → w.heap[k]? = E.w0.heap[k]?
 hle : Hp.le E.hz0 hz
 hnew : ∀ g o,hz g = some o → E.hz0 g = some o ∨ E.w0.heap.size ≤ g ∨ E.own g
structure St where
 env : List (Nat × PV)
 σ : List AObj
def DG : Nat → List AObj → List Nat → List Nat
 | _,[],acc => acc
 | i,.mark :: l,acc => DG (i + 1) l (i :: acc)
 | i,_ :: l,acc => DG (i + 1) l acc
def marksOf (σ : List AObj) : List Nat := DG 0 σ []
def plc (φ : Phi) (i : Nat) : Nat := match φ i with | some (some (g,_)) => g | _ => 0
def G5 (φ : Phi) (l : List Nat) : List Deferred := l.map fun i => { target := .collected (plc φ i),args := #[] }
structure Sim (E : Entry) (n : Nat) (st : St) (a : Act) (w : World) : Prop where
 size : a.tmps.size = n
 mem : ∃ hz φ,Mem E hz φ st.σ w ∧ a.defers = G5 φ (marksOf st.σ) ∧ ∀ t x,st.env.lookup t = some x → ∃ v,a.tmps[t]? = some v ∧ RelV hz φ v x
abbrev wd (ro : Option Nat) : Fence := { Fence.wide with round := ro }
def At (P : Program) (ro : Option Nat) (E : Entry) (n : Nat) (c : Code) (Q : Exit → Act → World → Prop) (st : St) : Prop := ∀ a w,Sim E n st a w → c.wpIn (wd ro) 0 P Q a w
end Go.Ab
