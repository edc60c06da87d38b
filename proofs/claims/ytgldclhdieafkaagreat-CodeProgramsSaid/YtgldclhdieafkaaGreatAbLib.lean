/- Typed data as cells; what the printed proofs use. -/
import Derived.Test.YtgldclhdieafkaaGreatAbNil
import Derived.KernelRfl
import Derived.Scope
namespace Go.Ab
abbrev i64 (n : Int) : PV := .d (.int .i64 n)
abbrev u64 (n : Int) : PV := .d (.int .u64 n)
abbrev u8 (n : Int) : PV := .d (.int .u8 n)
abbrev bo (b : Bool) : PV := .d (.bool b)
abbrev sv (s : ByteArray) : PV := .d (.str s)
abbrev w64 (n : Int) : Int := IntKind.i64.wrap n
abbrev wu64 (n : Int) : Int := IntKind.u64.wrap n
abbrev eInt (k : IntKind) (n : Int) : List D := [.int k n]
abbrev eStr (s : ByteArray) : List D := [.str s]
def encL {α : Type} (e : α → List D) (l : List α) : List D := l.flatMap e
abbrev LX {α : Type} (e : α → List D) (l : List α) : List D := [.list false l.length (encL e l)]
abbrev lv {α : Type} (e : α → List D) (l : List α) : PV := .d (.list false l.length (encL e l))
def sB (s : ByteArray) : List Int := s.data.toList.map fun b => (b.toNat : Int)
def lAt {α : Type} (l : List α) (i : Int) : Option α := if 0 ≤ i then l[i.toNat]? else none
def aAt {α : Type} (n : Nat) (l : List α) (i : Int) : Option α := if 0 ≤ i ∧ i < n then l[i.toNat]? else none
def grd {α : Type} (p : Prop) [Decidable p] (k : Option α) : Option α := if p then k else none
def Let {α β : Type} (e : α) (k : α → β) : β := k e
abbrev sLt (a b : ByteArray) : Bool := Op.bytesLess a.toList b.toList
theorem RF {α : Type} {p : Prop} [Decidable p] {k : Option α} {r : α} (h : grd p k = some r) : p ∧ k = some r := by
 unfold grd at h; split at h
 · rename_i hp; exact ⟨hp,h⟩
 · cases h
theorem Let_some {α β : Type} {e : α} {k : α → β} {r : β} (h : Let e k = r) : ∃ x,e = x ∧ k x = r := ⟨e,rfl,h⟩
theorem bind_some {α β : Type} {x : Option α} {k : α → Option β} {r : β} (h : x.bind k = some r) : ∃ y,x = some y ∧ k y = some r := Option.bind_eq_some_iff.1 h
theorem Tu {α : Type} {b : Bool} {x y : α} {r : α} (hb : b = true) (h : cond b x y = r) : x = r := by subst hb; exact h
theorem Tv {α : Type} {b : Bool} {x y : α} {r : α} (hb : b = false) (h : cond b x y = r) : y = r := by subst hb; exact h
theorem SM {S R : Type} {x : Option R} {o : S ⊕ R} (h : x.map Sum.inr = some o) : ∃ r,x = some r ∧ o = .inr r := by
 obtain ⟨r,h1,h2⟩ := Option.map_eq_some_iff.1 h; exact ⟨r,h1,h2.symm⟩
theorem all0 : ∀ p ∈ ([] : List Prop),p := fun _ h => by cases h
theorem allc {a : Prop} {l : List Prop} (ha : a) (hl : ∀ p ∈ l,p) : ∀ p ∈ (a :: l),p := by
 intro p hp
 rcases List.mem_cons.1 hp with rfl | hp
 · exact ha
 · exact hl p hp
section
variable {α : Type} {e : α → List D} {sz : Nat}
theorem Jg (he : ∀ x,(e x).length = sz) : ∀ l : List α,(encL e l).length = l.length * sz
 | [] => by simp [encL]
 | x :: l => by
   have := Jg he l
   unfold encL at *
   rw [List.flatMap_cons,List.length_append,this,he]
   simp [Nat.add_mul,Nat.add_comm]
theorem ON (he : ∀ x,(e x).length = sz) : ∀ (l : List α) (i : Nat) (x : α),l[i]? = some x → ((encL e l).drop (i * sz)).take sz = e x
 | [],i,x,h => by simp at h
 | y :: l,0,x,h => by
   simp at h; subst h
   unfold encL
   rw [List.flatMap_cons]
   simp only [Nat.zero_mul,List.drop_zero]
   rw [← he y,List.take_left']
   rfl
 | y :: l,i + 1,x,h => by
   have h2 := ON he l i x (by simpa using h)
   unfold encL at *
   rw [List.flatMap_cons]
   rw [show (i + 1) * sz = (e y).length + i * sz by rw [he]; rw [Nat.add_mul]; omega]
   rw [List.drop_append,List.drop_eq_nil_of_le (by omega)]
   simpa using h2
theorem QU (he : ∀ x,(e x).length = sz) {l : List α} {i : Int} {x : α} (h : lAt l i = some x) : Rm sz l.length (encL e l) i (e x) := by
 unfold lAt at h
 split at h
 · rename_i h0
   have hl := AL h
   exact ⟨h0,by omega,ON he l _ x h⟩
 · cases h
theorem encL_app (e : α → List D) (l m : List α) : encL e l ++ encL e m = encL e (l ++ m) := by simp [encL]
theorem SO (l m : List α) : l.length + m.length = (l ++ m).length := by simp
theorem Th (s : ByteArray) : s.size = (sB s).length := by simp [sB]
theorem No (he : ∀ x,(e x).length = 1) : ∀ (l : List α) (i : Nat) (x : α) (d : D),l[i]? = some x → e x = [d] → (encL e l)[i]? = some d
 | [],i,x,d,h,_ => by simp at h
 | y :: l,0,x,d,h,hd => by simp at h; subst h; unfold encL; rw [List.flatMap_cons,hd]; rfl
 | y :: l,i + 1,x,d,h,hd => by
   have h2 := No he l i x d (by simpa using h) hd
   unfold encL at *
   rw [List.flatMap_cons]
   have hy := he y
   rw [List.getElem?_append_right (by omega),hy]
   simpa using h2
end
theorem norm {P : Program} {ro : Option Nat} {E : Entry} {n : Nat} {y : Code} {Q : Exit → Act → World → Prop} {st : St} (h : At P ro E n y Q st) : ∀ a w,Sim E n st a w → Exit.then (y.wpIn (wd ro) 0 P Q) Q .normal a w := h
open Classical in
theorem M2 {α : Type} {e : α → List D} (he : ∀ x,(e x).length = 1) {n : Nat} {l : List α} {i : Int} {x : α} {d : D} (h : aAt n l i = some x) (hd : e x = [d]) : H9 i n ∧ (encL e l)[0 + i.toNat * 1]? = some d := by
 unfold aAt at h
 split at h
 · rename_i hb
   refine ⟨hb,?_⟩
   rw [Nat.zero_add,Nat.mul_one]
   exact No he l _ x d h hd
 · cases h
theorem app_ok {α : Type} {e : α → List D} {sz B m : Nat} (he : ∀ x,(e x).length = sz) (hB : 0 < B) {l : List α} (h : (l.length + m) * B ≤ 140737488355328) :
    (encL e l).length = l.length * sz ∧ l.length + m ≤ 281474976710656 ∧ (l.length + m) * B ≤ 140737488355328 := by
 refine ⟨Jg he l,?_,h⟩
 have := Nat.le_mul_of_pos_right (l.length + m) hB
 omega
section
variable {α : Type} {e : α → List D} {sz : Nat}
theorem AZ (he : ∀ x,(e x).length = 1) {l : List α} {i : Int} {x : α} {d : D} (h : lAt l i = some x) (hd : e x = [d]) : H9 i l.length ∧ (encL e l)[i.toNat * 1]? = some d := by
 unfold lAt at h
 split at h
 · rename_i hb
   have := AL h
   refine ⟨⟨hb,by omega⟩,?_⟩
   rw [Nat.mul_one]
   exact No he l _ x d h hd
 · cases h
end
theorem he_int (k : IntKind) : ∀ x,(eInt k x).length = 1 := fun _ => rfl
theorem G6 : ∀ x,(eStr x).length = 1 := fun _ => rfl
theorem IT {α : Type} (e : α → List D) : ∀ x,(LX e x).length = 1 := fun _ => rfl
theorem lenN {α : Type} {e : α → List D} (he : ∀ x,(e x).length = 1) (l : List α) {n : Nat} (h : l.length = n) : (encL e l).length = n := by rw [Jg he,Nat.mul_one,h]
theorem lenM {α : Type} {e : α → List D} {sz : Nat} (he : ∀ x,(e x).length = sz) (l : List α) {n m : Nat} (h : l.length = n) (hm : n * sz = m) : (encL e l).length = m := by rw [Jg he,h,hm]
theorem SC {E : Entry} {n : Nat} {st1 st2 : St} {q : Act → World → Prop} (h : st1 = st2) (hq : ∀ a w,Sim E n st2 a w → q a w) : ∀ a w,Sim E n st1 a w → q a w := h ▸ hq
section
variable {α : Type} {e : α → List D} {sz : Nat}
theorem rEl {l : List α} {i : Int} {x : α} (h : lAt l i = some x) : H9 i l.length := by
 unfold lAt at h
 split at h
 · rename_i hb
   have := AL h
   exact ⟨hb,by omega⟩
 · cases h
theorem lAt_get {l : List α} {i : Int} {x : α} (h : lAt l i = some x) : l[i.toNat]? = some x := by
 unfold lAt at h; split at h
 · exact h
 · cases h
theorem el_seg (he : ∀ x,(e x).length = sz) {l : List α} {k : Nat} {x : α} (h : l[k]? = some x) (off n : Nat) (hn : off + n ≤ sz) :
    k * sz + off + n ≤ (encL e l).length ∧ ((encL e l).drop (k * sz + off)).take n = ((e x).drop off).take n := by
 have hk := AL h
 have hlen := Jg he l
 have hm : k * sz + sz ≤ l.length * sz := by
  have := Nat.mul_le_mul_right sz (Nat.succ_le_of_lt hk)
  rw [Nat.succ_mul] at this; exact this
 refine ⟨by omega,?_⟩
 have h1 := ON he l k x h
 rw [← h1,← List.drop_drop]
 apply List.ext_getElem?
 intro j
 rw [List.getElem?_take,List.getElem?_take]
 split
 · rename_i hj
   simp only [List.getElem?_drop,List.getElem?_take]
   rw [if_pos (by omega)]
 · rfl
theorem rElC (he : ∀ x,(e x).length = sz) {l : List α} {i : Int} {x : α} (h : lAt l i = some x) (off n : Nat) (hn : off + n ≤ sz) {xs : List D} (hx : ((e x).drop off).take n = xs) :
    CellsAt (encL e l) (i.toNat * sz + off) n xs := by
 obtain ⟨h1,h2⟩ := el_seg he (lAt_get h) off n hn
 exact ⟨h1,h2.trans hx⟩
theorem rElV (he : ∀ x,(e x).length = sz) {l : List α} {i : Int} {x : α} (h : lAt l i = some x) (off : Nat) (hn : off + 1 ≤ sz) {d : D} (hx : (e x)[off]? = some d) :
    (encL e l)[i.toNat * sz + off]? = some d := by
 obtain ⟨h1,h2⟩ := el_seg he (lAt_get h) off 1 hn
 have := congrArg (fun q => q[0]?) h2
 simpa [hx] using this
end
section
variable {α : Type} {e : α → List D} {sz : Nat}
theorem setM (he : ∀ x,(e x).length = sz) (sub : Nat) (y : α) {vs : List D} (hl : sub + vs.length ≤ sz) : ∀ (l : List α) (k : Nat) (x : α),l[k]? = some x → e y = setCs (e x) sub vs → setCs (encL e l) (k * sz + sub) vs = encL e (l.set k y)
 | [],k,x,h,_ => by simp at h
 | z :: l,0,x,h,hy => by
   simp at h; subst h
   have hz := he z
   have e0 : encL e (z :: l) = e z ++ encL e l := by simp [encL]
   have e1 : encL e ((z :: l).set 0 y) = e y ++ encL e l := by simp [encL]
   have h1 : 0 * sz + sub + vs.length ≤ (e z ++ encL e l).length := by rw [List.length_append,hz]; omega
   rw [e0,e1,hy]
   apply List.ext_getElem?
   intro j
   rw [setCs_get h1]
   have h2 : sub + vs.length ≤ (e z).length := by omega
   have h3 := Iv (cs := e z) (vs := vs) (off := sub) h2
   rcases Nat.lt_or_ge j (e z).length with hj | hj
   · rw [List.getElem?_append_left hj,List.getElem?_append_left (l₁ := setCs (e z) sub vs) (by rw [h3]; exact hj),setCs_get h2,Nat.zero_mul,Nat.zero_add]
   · rw [List.getElem?_append_right hj,List.getElem?_append_right (l₁ := setCs (e z) sub vs) (by rw [h3]; exact hj),h3,if_neg (by omega)]
 | z :: l,k + 1,x,h,hy => by
   have ih := setM he sub y hl l k x (by simpa using h) hy
   have hk := AL (show l[k]? = some x by simpa using h)
   have hz := he z
   have e0 : encL e (z :: l) = e z ++ encL e l := by simp [encL]
   have e1 : encL e ((z :: l).set (k + 1) y) = e z ++ encL e (l.set k y) := by simp [encL]
   have hlen := Jg he l
   have hm : k * sz + sz ≤ l.length * sz := by
    have := Nat.mul_le_mul_right sz (Nat.succ_le_of_lt hk)
    rw [Nat.succ_mul] at this; exact this
   have hks : (k + 1) * sz = k * sz + sz := Nat.succ_mul k sz
   have h1 : (k + 1) * sz + sub + vs.length ≤ (e z ++ encL e l).length := by rw [List.length_append,hz,hlen,hks]; omega
   have h2 : k * sz + sub + vs.length ≤ (encL e l).length := by rw [hlen]; omega
   rw [e0,e1,← ih]
   apply List.ext_getElem?
   intro j
   rw [setCs_get h1]
   rcases Nat.lt_or_ge j (e z).length with hj | hj
   · rw [List.getElem?_append_left hj,List.getElem?_append_left hj,if_neg (by omega)]
   · rw [List.getElem?_append_right hj,List.getElem?_append_right hj,setCs_get h2]
     by_cases hc : k * sz + sub ≤ j - (e z).length ∧ j - (e z).length < k * sz + sub + vs.length
     · rw [if_pos hc,if_pos (by omega)]
       congr 1; omega
     · rw [if_neg hc,if_neg (by omega)]
theorem PR (he : ∀ x,(e x).length = sz) {l : List α} {i : Int} {x : α} (h : lAt l i = some x) (sub : Nat) (y : α) {vs : List D} (hy : e y = setCs (e x) sub vs) (hl : sub + vs.length ≤ sz) :
    setCs (encL e l) (i.toNat * sz + sub) vs = encL e (l.set i.toNat y) ∧ i.toNat * sz + sub + vs.length ≤ (encL e l).length := by
 have hg := lAt_get h
 refine ⟨setM he sub y hl l _ x hg hy,?_⟩
 have hk := AL hg
 have hlen := Jg he l
 have hm : i.toNat * sz + sz ≤ l.length * sz := by
  have := Nat.mul_le_mul_right sz (Nat.succ_le_of_lt hk)
  rw [Nat.succ_mul] at this; exact this
 omega
end
def mGet {α : Type} : List (Int × α) → Int → Option α
 | [],_ => none
 | p :: l,k => if k == p.1 then some p.2 else mGet l k
def mPut {α : Type} : List (Int × α) → Int → α → List (Int × α)
 | [],k,x => [(k,x)]
 | p :: l,k,x => if k == p.1 then (p.1,x) :: l else p :: mPut l k x
def encM {α : Type} (kk : IntKind) (e : α → List D) (l : List (Int × α)) : List (D × List D) := l.map fun p => (.int kk p.1,e p.2)
theorem PE {α : Type} (kk : IntKind) (e : α → List D) (z : α) {l : List (Int × α)} {n : Int} {y : Option α} (h : mGet l n = y) : dget kk n (e z) (encM kk e l) = some (e (y.getD z),y.isSome) := by
 subst h
 induction l with
 | nil => rfl
 | cons p l ih =>
   simp only [encM,List.map_cons,dget,mGet,if_true]
   split
   · rfl
   · exact ih
theorem RK {α : Type} (kk : IntKind) (e : α → List D) (n : Int) (x : α) (l : List (Int × α)) : dput kk n (e x) (encM kk e l) = some (encM kk e (mPut l n x)) := by
 induction l with
 | nil => rfl
 | cons p l ih =>
   simp only [encM,List.map_cons,dput,mPut,if_true]
   split
   · rfl
   · rw [show (l.map fun p => (D.int kk p.1,e p.2)) = encM kk e l from rfl,ih]; rfl
theorem aIxM {α : Type} {e : α → List D} {sz : Nat} (he : ∀ x,(e x).length = sz) {n : Nat} {l : List α} {i : Int} {x : α} (h : aAt n l i = some x) : H9 i n ∧ CellsAt (encL e l) (i.toNat * sz) sz (e x) := by
 unfold aAt at h
 split at h
 · rename_i hb
   refine ⟨hb,?_⟩
   have := rElC he (l := l) (i := i) (x := x) (by unfold lAt; rw [if_pos hb.1]; exact h) 0 sz (by omega) (xs := e x) (by rw [List.drop_zero,← he x,List.take_length])
   rwa [Nat.add_zero] at this
 · cases h
def cAt : List Nat → Code → Code
 | [],c => c
 | 0 :: p,.seq a _ => cAt p a
 | 1 :: p,.seq _ b => cAt p b
 | 0 :: p,.block _ b => cAt p b
 | 0 :: p,.loop b => cAt p b
 | 0 :: p,.scope b => cAt p b
 | 0 :: p,.cond _ a _ => cAt p a
 | 1 :: p,.cond _ _ b => cAt p b
 | 0 :: p,.rangeFunc _ _ a _ => cAt p a
 | 1 :: p,.rangeFunc _ _ _ b => cAt p b
 | _,_ => .skip
def bOf (f : Func) : Code := f.body.getD .skip
end Go.Ab
