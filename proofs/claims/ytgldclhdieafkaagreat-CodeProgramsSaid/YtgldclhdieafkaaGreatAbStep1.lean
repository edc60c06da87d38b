/- The outcome of an operation; operations on values, addresses; loads and stores; new variables. -/
import Derived.Test.YtgldclhdieafkaaGreatAbRun
namespace Go.Ab
open Go.RowKit
structure Out where
 res : PV
 σ : List AObj
 eff : Option (Nat × (Nat → PV))
 obl : List Prop
def PV.effs (e : Option (Nat × (Nat → PV))) (x : PV) : PV := match e with | none => x | some (i,r) => x.sub i r
def Good (P : Program) (E : Entry) (s : Sem Next) (w : World) (hz : Hp) (φ : Phi) (out : Out) : Prop :=
 ∃ nx v w' hz' φ',s.run P w = .ok nx w' ∧ (nx = .value v ∨ (nx = .skip ∧ v = undef)) ∧ Mem E hz' φ' out.σ w' ∧ RelV hz' φ' v out.res ∧
   ∀ u x,RelV hz φ u x → RelV hz' φ' u (x.effs out.eff)
def PV.cells : PV → Option (List PV)
 | .agg cs => some cs
 | .dagg cs => some (cs.map .d)
 | .tup _ => none
 | .undef => none
 | x => some [x]
def PV.isCell : PV → Bool
 | .d _ | .ptr _ _ | .row _ _ | .view _ _ _ | .yld _ | .mapv _ | .pp _ | .fn _ _ _ => true
 | _ => false
def PV.toD : PV → Option D
 | .d x => some x
 | _ => none
def Jh : List PV → Bool
 | [] => true
 | x :: l => x.isCell && Jh l
def toDs : List PV → Option (List D)
 | [] => some []
 | x :: l => match x.toD,toDs l with | some y,some r => some (y :: r) | _,_ => none
def isAggD : TypeDesc → Bool
 | .struct _ | .array _ _ => true
 | _ => false
section
variable {P : Program} {E : Entry} {w : World} {hz : Hp} {φ : Phi} {σ : List AObj}
theorem good_pure {s : Sem Next} {v : Value} {res : PV} {obl : List Prop} (hM : Mem E hz φ σ w) (h : s.run P w = .ok (.value v) w) (hr : RelV hz φ v res) : Good P E s w hz φ ⟨res,σ,none,obl⟩ :=
 ⟨_,v,w,hz,φ,h,.inl rfl,hM,hr,fun _ _ h => h⟩
theorem good_v {s : Sem Value} {v : Value} {res : PV} {obl : List Prop} (hM : Mem E hz φ σ w) (h : s.run P w = .ok v w) (hr : RelV hz φ v res) :
    Good P E (do pure (.value (← s))) w hz φ ⟨res,σ,none,obl⟩ :=
 good_pure hM (by rw [Sem.run_bind,h]; rfl) hr
theorem LU : ∀ {l : List PV} {x : PV},Jh l = true → x ∈ l → x.isCell = true
 | [],x,_,h => by cases h
 | y :: l,x,ha,h => by
   simp [Jh] at ha
   rcases List.mem_cons.1 h with rfl | h
   · exact ha.1
   · exact LU ha.2 h
theorem Jb {v : Value} {x : PV} (h : RelV hz φ v x) (hc : x.isCell = true) : v.oneCell' = true := by
 cases h <;> first | rfl | (simp [PV.isCell] at hc; done) | skip
 rename_i h; cases h <;> rfl
theorem Lb {v : Value} (h : v.oneCell' = true) : v.cells = #[v] := by
 cases v <;> first | rfl | cases h
theorem relV_cells {v : Value} {x : PV} {cs : List PV} (h : RelV hz φ v x) (hx : x.cells = some cs) (hc : Jh cs = true) :
    v.cells.size = cs.length ∧ G8 hz φ v.cells cs ∧ ∀ u ∈ v.cells.toList,u.oneCell' = true := by
 have one : ∀ {v : Value} {x : PV},RelV hz φ v x → x.isCell = true → v.cells.size = [x].length ∧ G8 hz φ v.cells [x] ∧ ∀ u ∈ v.cells.toList,u.oneCell' = true := by
  intro v x h hc
  have h1 := Jb h hc
  rw [Lb h1]
  refine ⟨rfl,fun j y hj => ?_,by simpa using h1⟩
  match j,hj with
  | 0,hj => simp at hj; subst hj; simpa using h
  | j + 1,hj => simp at hj
 have many : ∀ (arr : Array Value) (cs : List PV),arr.size = cs.length → (∀ j x,cs[j]? = some x → RelV hz φ (arr.getD j undef) x) → Jh cs = true → ∀ u ∈ arr.toList,u.oneCell' = true := by
  intro arr cs hs hr hc u hu
  obtain ⟨j,hj,rfl⟩ := List.getElem_of_mem hu
  have hjl : j < cs.length := by rw [← hs]; simpa using hj
  have := Jb (hr j cs[j] (List.getElem?_eq_getElem hjl)) (LU hc (List.getElem_mem hjl))
  have hj' : j < arr.size := by simpa using hj
  simpa [hj'] using this
 cases h with
 | agg arr cs' hs hr =>
   simp [PV.cells] at hx
   subst hx
   exact ⟨hs,hr,many arr _ hs hr hc⟩
 | dagg arr cs' hs hr =>
   simp [PV.cells] at hx
   subst hx
   have hr' : ∀ j x,(cs'.map PV.d)[j]? = some x → RelV hz φ (arr.getD j undef) x := by
    intro j x hj
    rw [List.getElem?_map] at hj
    cases hq : cs'[j]? with
    | none => rw [hq] at hj; cases hj
    | some y => rw [hq] at hj; simp at hj; subst hj; exact .d (hr j y hq)
   exact ⟨by simpa [Value.cells] using hs,hr',many arr _ (by simpa using hs) hr' hc⟩
 | tup => simp [PV.cells] at hx
 | undef => simp [PV.cells] at hx
 | d h => simp [PV.cells] at hx; subst hx; exact one (.d h) rfl
 | ptr i off g c h => simp [PV.cells] at hx; subst hx; exact one (.ptr i off g c h) rfl
 | row i n g c h h1 h2 => simp [PV.cells] at hx; subst hx; exact one (.row i n g c h h1 h2) rfl
 | rowNil i a h => simp [PV.cells] at hx; subst hx; exact one (.rowNil i a h) rfl
 | view i o n g c cap h h1 h2 => simp [PV.cells] at hx; subst hx; exact one (.view i o n g c cap h h1 h2) rfl
 | viewNil i o a h => simp [PV.cells] at hx; subst hx; exact one (.viewNil i o a h) rfl
 | yld i l c h => simp [PV.cells] at hx; subst hx; exact one (.yld i l c h) rfl
 | mapv i g c h => simp [PV.cells] at hx; subst hx; exact one (.mapv i g c h) rfl
 | pp g off cs arr e fr f hg h1 h2 => simp [PV.cells] at hx; subst hx; exact one (.pp g off cs arr e fr f hg h1 h2) rfl
 | fn f a b c d h1 h2 r1 r2 => simp [PV.cells] at hx; subst hx; exact one (.fn f a b c d h1 h2 r1 r2) rfl
theorem relV_d {v : Value} {x : D} (h : RelV hz φ v (.d x)) : RelD hz v x := by cases h with | d h => exact h
theorem toDs_get : ∀ {l : List PV} {ds : List D},toDs l = some ds → ds.length = l.length ∧ ∀ (j : Nat) (x : D),ds[j]? = some x → l[j]? = some (PV.d x)
 | [],ds,h => by simp [toDs] at h; subst h; simp
 | y :: l,ds,h => by
   simp only [toDs] at h
   split at h
   · rename_i y' r hy hr
     simp at h; subst h
     obtain ⟨h1,h2⟩ := toDs_get hr
     have hy' : y = .d y' := by cases y <;> simp [PV.toD] at hy <;> rw [hy]
     refine ⟨by simp [h1],fun j x hj => ?_⟩
     match j,hj with
     | 0,hj => simp at hj; subst hj; simp [hy']
     | j + 1,hj => simpa using h2 j x (by simpa using hj)
   · cases h
theorem relCells_ds {arr : Array Value} {cs : List PV} {ds : List D} (h : G8 hz φ arr cs) (hd : toDs cs = some ds) : IZ hz arr ds := by
 intro j x hj
 exact relV_d (h j _ ((toDs_get hd).2 j x hj))
def CellsAt (cs : List D) (off n : Nat) (xs : List D) : Prop := off + n ≤ cs.length ∧ (cs.drop off).take n = xs
def P8 (size : Nat) (agg : Bool) (cs : List D) (off : Nat) (σ : List AObj) : Orc → Option Out
 | .val x => if agg then none else some ⟨.d x,σ,none,[cs[off]? = some x]⟩
 | .cells xs => if agg then some ⟨.agg (xs.map .d),σ,none,[CellsAt cs off size xs]⟩ else none
 | .no => if agg && (off == 0) then some ⟨.dagg cs,σ,none,[cs.length = size]⟩ else none
 | _ => none
def Orc.isNo : Orc → Bool | .no => true | _ => false
def OX (P : Program) (T : TypeId) (x : PV) (σ : List AObj) (orc : Orc) : Option Out :=
 match P.underlying T,P.info? T,x with
 | some desc,some info,.ptr i off =>
   match σ[i]? with
   | some (.blk _ cs) =>
     if isAggD desc then
      if ((cs.drop off).take info.size).length = info.size then some ⟨.agg ((cs.drop off).take info.size),σ,none,[]⟩ else none
     else match cs[off]? with
      | some y => some ⟨y,σ,none,[]⟩
      | none => none
   | some (.dblk _ cs) => P8 info.size (isAggD desc) cs off σ orc
   | some (.row _ _ cs) => if orc.isNo then none else P8 info.size (isAggD desc) cs off σ orc
   | _ => none
 | some desc,some info,.pp cs =>
   if isAggD desc then
    if (cs.take info.size).length = info.size then some ⟨.agg ((cs.take info.size).map .d),σ,none,[]⟩ else none
   else match cs with
    | y :: _ => some ⟨.d y,σ,none,[]⟩
    | [] => none
 | _,_,_ => none
theorem IQ {T : TypeId} {desc : TypeDesc} {info : TypeInfo} (hu : P.underlying T = some desc) (hi : P.info? T = some info) (a : Addr) :
    (loadVar T a).run P w = if isAggD desc then ((loadCells a info.size).run P w).andThen fun cs w' => .ok (.agg cs) w' else (load a).run P w := by
 unfold loadVar isAgg
 cases desc <;> simp [run_underlying hu,isAggD,sizeOf,typeInfo,hi] <;> rfl
theorem Ie {T : TypeId} {desc : TypeDesc} {info : TypeInfo} (hu : P.underlying T = some desc) (hi : P.info? T = some info) {g off : Nat} {t : TypeId} {fr : Nat × Nat} {arr : Array Value} (hg : w.heap[g]? = some (.cells arr t fr))
    (hl : if isAggD desc then off + info.size ≤ arr.size else off < arr.size) :
    (Instr.loadAt T (.pointer (some ⟨g,off,none⟩))).run P w = .ok (if isAggD desc then .agg (arr.extract off (off + info.size)) else arr.getD off undef) w := by
 simp only [Instr.loadAt,Instr.sureAddr,Sem.run_bind,Sem.run_pure,Result.andThen_ok]
 rw [IQ hu hi]
 split
 · rename_i ha
   rw [if_pos ha] at hl
   rw [Ly g off t fr arr info.size w hg hl]
   rfl
 · rename_i ha
   rw [if_neg ha] at hl
   exact NR g off t fr arr w hg hl
theorem HU {arr : Array Value} {off n j : Nat} (h : off + n ≤ arr.size) (hj : j < n) : (arr.extract off (off + n)).getD j undef = arr.getD (off + j) undef := by
 simp only [Array.getD_eq_getD_getElem?,Array.getElem?_extract]
 rw [if_pos (by omega)]
end
end Go.Ab
