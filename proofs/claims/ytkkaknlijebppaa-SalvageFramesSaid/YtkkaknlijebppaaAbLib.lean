/- Typed data as cells; what the printed proofs use. -/
import Derived.Test.YtkkaknlijebppaaAbNil
import Derived.KernelRfl
import Derived.Scope
namespace Go.Ab

abbrev i64 (n : Int) : PV := .d (.int .i64 n)
abbrev u64 (n : Int) : PV := .d (.int .u64 n)
abbrev u32 (n : Int) : PV := .d (.int .u32 n)
abbrev u8 (n : Int) : PV := .d (.int .u8 n)
abbrev bo (b : Bool) : PV := .d (.bool b)
abbrev sv (s : ByteArray) : PV := .d (.str s)
abbrev w64 (n : Int) : Int := IntKind.i64.wrap n
abbrev wu64 (n : Int) : Int := IntKind.u64.wrap n
abbrev wu32 (n : Int) : Int := IntKind.u32.wrap n
abbrev wu8 (n : Int) : Int := IntKind.u8.wrap n
abbrev eInt (k : IntKind) (n : Int) : List D := [.int k n]
abbrev eStr (s : ByteArray) : List D := [.str s]
def encL {α : Type} (e : α → List D) (l : List α) : List D := l.flatMap e
abbrev eList {α : Type} (e : α → List D) (l : List α) : List D := [.list false l.length (encL e l)]
abbrev lv {α : Type} (e : α → List D) (l : List α) : PV := .d (.list false l.length (encL e l))

/-- A string's bytes as numbers. -/
def sB (s : ByteArray) : List Int := s.data.toList.map fun b => (b.toNat : Int)
def lAt {α : Type} (l : List α) (i : Int) : Option α := if 0 ≤ i then l[i.toNat]? else none
def aAt {α : Type} (n : Nat) (l : List α) (i : Int) : Option α := if 0 ≤ i ∧ i < n then l[i.toNat]? else none
def grd {α : Type} (p : Prop) [Decidable p] (k : Option α) : Option α := if p then k else none
theorem grd_some {α : Type} {p : Prop} [Decidable p] {k : Option α} {r : α} (h : grd p k = some r) : p ∧ k = some r := by
  unfold grd at h; split at h
  · rename_i hp; exact ⟨hp, h⟩
  · cases h
theorem bind_some {α β : Type} {x : Option α} {k : α → Option β} {r : β} (h : x.bind k = some r) : ∃ y, x = some y ∧ k y = some r := Option.bind_eq_some_iff.1 h
theorem cond_t {α : Type} {b : Bool} {x y : α} {r : α} (hb : b = true) (h : cond b x y = r) : x = r := by subst hb; exact h
theorem cond_f {α : Type} {b : Bool} {x y : α} {r : α} (hb : b = false) (h : cond b x y = r) : y = r := by subst hb; exact h
theorem some_eq {α : Type} {x r : α} (h : some x = some r) : x = r := Option.some.inj h
theorem map_inr {S R : Type} {x : Option R} {o : S ⊕ R} (h : x.map Sum.inr = some o) : ∃ r, x = some r ∧ o = .inr r := by
  obtain ⟨r, h1, h2⟩ := Option.map_eq_some_iff.1 h; exact ⟨r, h1, h2.symm⟩

theorem all0 : ∀ p ∈ ([] : List Prop), p := fun _ h => by cases h
theorem allc {a : Prop} {l : List Prop} (ha : a) (hl : ∀ p ∈ l, p) : ∀ p ∈ (a :: l), p := by
  intro p hp
  rcases List.mem_cons.1 hp with rfl | hp
  · exact ha
  · exact hl p hp

section
variable {α : Type} {e : α → List D} {sz : Nat}

theorem encL_len (he : ∀ x, (e x).length = sz) : ∀ l : List α, (encL e l).length = l.length * sz
  | [] => by simp [encL]
  | x :: l => by
    have := encL_len he l
    unfold encL at *
    rw [List.flatMap_cons, List.length_append, this, he]
    simp [Nat.add_mul, Nat.add_comm]

theorem encL_at (he : ∀ x, (e x).length = sz) : ∀ (l : List α) (i : Nat) (x : α), l[i]? = some x → ((encL e l).drop (i * sz)).take sz = e x
  | [], i, x, h => by simp at h
  | y :: l, 0, x, h => by
    simp at h; subst h
    unfold encL
    rw [List.flatMap_cons]
    simp only [Nat.zero_mul, List.drop_zero]
    rw [← he y, List.take_left']
    rfl
  | y :: l, i + 1, x, h => by
    have h2 := encL_at he l i x (by simpa using h)
    unfold encL at *
    rw [List.flatMap_cons]
    rw [show (i + 1) * sz = (e y).length + i * sz by rw [he]; rw [Nat.add_mul]; omega]
    rw [List.drop_append, List.drop_eq_nil_of_le (by omega)]
    simpa using h2

theorem elemAt_of (he : ∀ x, (e x).length = sz) {l : List α} {i : Int} {x : α} (h : lAt l i = some x) : ElemAt sz l.length (encL e l) i (e x) := by
  unfold lAt at h
  split at h
  · rename_i h0
    have hl := lt_of_getL h
    exact ⟨h0, by omega, encL_at he l _ x h⟩
  · cases h

theorem encL_app (e : α → List D) (l m : List α) : encL e l ++ encL e m = encL e (l ++ m) := by simp [encL]
theorem len_app (l m : List α) : l.length + m.length = (l ++ m).length := by simp
theorem encL_map (k : IntKind) (l : List Int) : encL (eInt k) l = l.map (D.int k) := by
  induction l with
  | nil => rfl
  | cons x l ih => unfold encL at *; rw [List.flatMap_cons, ih]; rfl
theorem encL_sB (s : ByteArray) : (s.data.toList.map fun b => D.int .u8 b.toNat) = encL (eInt .u8) (sB s) := by
  rw [encL_map, sB, List.map_map]; rfl
theorem len_sB (s : ByteArray) : s.size = (sB s).length := by simp [sB]

/-- Elements of one cell, by place. -/
theorem encL_one (he : ∀ x, (e x).length = 1) : ∀ (l : List α) (i : Nat) (x : α) (d : D), l[i]? = some x → e x = [d] → (encL e l)[i]? = some d
  | [], i, x, d, h, _ => by simp at h
  | y :: l, 0, x, d, h, hd => by simp at h; subst h; unfold encL; rw [List.flatMap_cons, hd]; rfl
  | y :: l, i + 1, x, d, h, hd => by
    have h2 := encL_one he l i x d (by simpa using h) hd
    unfold encL at *
    rw [List.flatMap_cons]
    have hy := he y
    rw [List.getElem?_append_right (by omega), hy]
    simpa using h2

theorem encL_set (he : ∀ x, (e x).length = 1) : ∀ (l : List α) (i : Nat) (x : α) (d : D), e x = [d] → (encL e l).set i d = encL e (l.set i x)
  | [], i, x, d, _ => by simp [encL]
  | y :: l, 0, x, d, hd => by
    unfold encL
    rw [List.set_cons_zero, List.flatMap_cons, List.flatMap_cons, hd]
    have hy := he y
    match hq : e y, hy with
    | [z], _ => rfl
  | y :: l, i + 1, x, d, hd => by
    have h2 := encL_set he l i x d hd
    unfold encL at *
    rw [List.set_cons_succ, List.flatMap_cons, List.flatMap_cons]
    have hy := he y
    match hq : e y, hy with
    | [z], _ => simp [h2]
end

theorem norm {P : Program} {ro : Option Nat} {E : Entry} {n : Nat} {y : Code} {Q : Exit → Act → World → Prop} {st : St} (h : At P ro E n y Q st) : ∀ a w, Sim E n st a w → Exit.then (y.wpIn (wd ro) 0 P Q) Q .normal a w := h

open Classical in
noncomputable def lim {α : Type} (f : Nat → Option α) : Option α := if h : ∃ r n, f n = some r then some h.choose else none
theorem lim_some {α : Type} {f : Nat → Option α} {r : α} (h : lim f = some r) : ∃ n, f n = some r := by
  unfold lim at h
  split at h
  · rename_i hx
    simp at h; subst h
    exact hx.choose_spec
  · cases h
theorem lim_of {α : Type} {f : Nat → Option α} {r : α} (n : Nat) (h : f n = some r) (hdet : ∀ m r', f m = some r' → r' = r) : lim f = some r := by
  unfold lim
  have hx : ∃ r n, f n = some r := ⟨r, n, h⟩
  rw [dif_pos hx]
  obtain ⟨m, hm⟩ := hx.choose_spec
  rw [hdet m _ hm]

/-- Facts that single operations ask. -/
theorem aAt_of {α : Type} {e : α → List D} (he : ∀ x, (e x).length = 1) {n : Nat} {l : List α} {i : Int} {x : α} {d : D} (h : aAt n l i = some x) (hd : e x = [d]) : Within i n ∧ (encL e l)[0 + i.toNat * 1]? = some d := by
  unfold aAt at h
  split at h
  · rename_i hb
    refine ⟨hb, ?_⟩
    rw [Nat.zero_add, Nat.mul_one]
    exact encL_one he l _ x d h hd
  · cases h
theorem app_ok {α : Type} {e : α → List D} {sz B m : Nat} (he : ∀ x, (e x).length = sz) (hB : 0 < B) {l : List α} (h : (l.length + m) * B ≤ 140737488355328) :
    (encL e l).length = l.length * sz ∧ l.length + m ≤ 281474976710656 ∧ (l.length + m) * B ≤ 140737488355328 := by
  refine ⟨encL_len he l, ?_, h⟩
  have := Nat.le_mul_of_pos_right (l.length + m) hB
  omega

def lCut {α : Type} (l : List α) (lo hi : Int) : List α := (l.drop lo.toNat).take (hi - lo).toNat

section
variable {α : Type} {e : α → List D} {sz : Nat}

theorem encL_drop (he : ∀ x, (e x).length = sz) : ∀ (l : List α) (k : Nat), (encL e l).drop (k * sz) = encL e (l.drop k)
  | l, 0 => by simp
  | [], k + 1 => by simp [encL]
  | x :: l, k + 1 => by
    have ih := encL_drop he l k
    unfold encL at *
    rw [List.drop_succ_cons, ← ih, List.flatMap_cons, show (k + 1) * sz = (e x).length + k * sz by rw [he, Nat.add_mul]; omega, List.drop_append, List.drop_eq_nil_of_le (by omega)]
    simp
theorem encL_take (he : ∀ x, (e x).length = sz) : ∀ (l : List α) (k : Nat), (encL e l).take (k * sz) = encL e (l.take k)
  | l, 0 => by simp [encL]
  | [], k + 1 => by simp [encL]
  | x :: l, k + 1 => by
    have ih := encL_take he l k
    unfold encL at *
    rw [List.take_succ_cons, List.flatMap_cons, List.flatMap_cons, ← ih, show (k + 1) * sz = (e x).length + k * sz by rw [he, Nat.add_mul]; omega, List.take_append, List.take_of_length_le (by omega)]
    simp
theorem cut_ok (he : ∀ x, (e x).length = sz) {l : List α} {lo hi : Int} (h : 0 ≤ lo ∧ lo ≤ hi ∧ hi ≤ (l.length : Int)) :
    (hi - lo).toNat = (lCut l lo hi).length ∧ ((encL e l).drop (lo.toNat * sz)).take ((hi - lo).toNat * sz) = encL e (lCut l lo hi) := by
  refine ⟨?_, ?_⟩
  · unfold lCut; simp; omega
  · rw [encL_drop he, encL_take he]; rfl
theorem cut_ok3 (he : ∀ x, (e x).length = sz) {l : List α} {lo hi mx : Int} (h : 0 ≤ lo ∧ lo ≤ hi ∧ hi ≤ (l.length : Int) ∧ mx = hi) :
    (hi - lo).toNat = (lCut l lo hi).length ∧ ((encL e l).drop (lo.toNat * sz)).take ((hi - lo).toNat * sz) = encL e (lCut l lo hi) := cut_ok he ⟨h.1, h.2.1, h.2.2.1⟩
theorem rAt_of (he : ∀ x, (e x).length = 1) {l : List α} {i : Int} {x : α} {d : D} (h : lAt l i = some x) (hd : e x = [d]) : Within i l.length ∧ (encL e l)[i.toNat * 1]? = some d := by
  unfold lAt at h
  split at h
  · rename_i hb
    have := lt_of_getL h
    refine ⟨⟨hb, by omega⟩, ?_⟩
    rw [Nat.mul_one]
    exact encL_one he l _ x d h hd
  · cases h
theorem setCs_one (he : ∀ x, (e x).length = 1) (l : List α) (k : Nat) (x : α) : setCs (encL e l) k (e x) = encL e (l.set k x) := by
  match hq : e x, he x with
  | [d], _ => exact encL_set he l k x d hq
theorem aSet_ok (he : ∀ x, (e x).length = 1) {l : List α} (x : α) {i : Int} {n : Nat} (h : 0 ≤ i ∧ i < (n : Int) ∧ i.toNat < l.length) :
    setCs (encL e l) (0 + i.toNat * 1) (e x) = encL e (l.set i.toNat x) ∧ 0 + i.toNat * 1 + (e x).length ≤ (encL e l).length := by
  have := encL_len he l
  have := he x
  refine ⟨?_, by omega⟩
  rw [Nat.zero_add, Nat.mul_one]; exact setCs_one he l _ x
end

theorem he_int (k : IntKind) : ∀ x, (eInt k x).length = 1 := fun _ => rfl
theorem lenN {α : Type} {e : α → List D} (he : ∀ x, (e x).length = 1) (l : List α) {n : Nat} (h : l.length = n) : (encL e l).length = n := by rw [encL_len he, Nat.mul_one, h]
/-! Elements of several cells, in rows. -/
section
variable {α : Type} {e : α → List D} {sz : Nat}
end

theorem two_of {l : List Int} (h : l.length = 2) : ∃ a b, l = [a, b] := by
  match l, h with
  | [a, b], _ => exact ⟨a, b, rfl⟩
theorem eqTwo_ok (k : IntKind) {l m : List Int} (h : l.length = 2 ∧ m.length = 2) : D.bool (eqTwo (encL (eInt k) l) (encL (eInt k) m)) = D.bool (l == m) := by
  obtain ⟨a, b, rfl⟩ := two_of h.1
  obtain ⟨c, d, rfl⟩ := two_of h.2
  have : ([a, b] == [c, d]) = ((a == c) && (b == d)) := by
    show (a == c && (b == d && true)) = _
    rw [Bool.and_true]
  rw [this]; rfl
theorem twoOK (k : IntKind) {l m : List Int} (h : l.length = 2 ∧ m.length = 2) : TwoOK (encL (eInt k) l) (encL (eInt k) m) := by
  obtain ⟨a, b, rfl⟩ := two_of h.1
  obtain ⟨c, d, rfl⟩ := two_of h.2
  exact ⟨k, a, b, c, d, rfl, rfl⟩

section
variable {α : Type} {e : α → List D} {sz : Nat}
end

/-! Maps of any keys. -/
theorem lk_f {n m : Int} {k : IntKind} {l : List D} (h : (n == m) = false) (r : lkB n l = false) : lkB n (.int k m :: l) = false := by simp only [lkB, h, r, Bool.or_self]
/-- A part of code, by its way. -/
def cAt : List Nat → Code → Code
  | [], c => c
  | 0 :: p, .seq a _ => cAt p a
  | 1 :: p, .seq _ b => cAt p b
  | 0 :: p, .block _ b => cAt p b
  | 0 :: p, .loop b => cAt p b
  | 0 :: p, .scope b => cAt p b
  | 0 :: p, .cond _ a _ => cAt p a
  | 1 :: p, .cond _ _ b => cAt p b
  | 0 :: p, .rangeFunc _ _ a _ => cAt p a
  | 1 :: p, .rangeFunc _ _ _ b => cAt p b
  | _, _ => .skip
def bOf (f : Func) : Code := f.body.getD .skip
end Go.Ab
