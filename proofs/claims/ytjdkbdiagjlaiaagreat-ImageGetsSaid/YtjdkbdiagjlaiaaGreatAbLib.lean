/- Typed data as cells; what the printed proofs use. -/
import Derived.Test.YtjdkbdiagjlaiaaGreatAbNil
import Derived.KernelRfl
import Derived.Scope
namespace Go.Ab

abbrev i64 (n : Int) : PV := .d (.int .i64 n)
abbrev u64 (n : Int) : PV := .d (.int .u64 n)
abbrev u32 (n : Int) : PV := .d (.int .u32 n)
abbrev u8 (n : Int) : PV := .d (.int .u8 n)
abbrev bo (b : Bool) : PV := .d (.bool b)
abbrev sv (s : ByteArray) : PV := .d (.str s)
abbrev w64 (n : Int) : Int := IntKind.i64.wrap n
abbrev wu64 (n : Int) : Int := IntKind.u64.wrap n
abbrev wu32 (n : Int) : Int := IntKind.u32.wrap n
abbrev wu8 (n : Int) : Int := IntKind.u8.wrap n
abbrev eInt (k : IntKind) (n : Int) : List D := [.int k n]
abbrev eStr (s : ByteArray) : List D := [.str s]
def encL {α : Type} (e : α → List D) (l : List α) : List D := l.flatMap e
abbrev lv {α : Type} (e : α → List D) (l : List α) : PV := .d (.list false l.length (encL e l))

/-- A string's bytes as numbers. -/
def sB (s : ByteArray) : List Int := s.data.toList.map fun b => (b.toNat : Int)
def lAt {α : Type} (l : List α) (i : Int) : Option α := if 0 ≤ i then l[i.toNat]? else none
def aAt {α : Type} (n : Nat) (l : List α) (i : Int) : Option α := if 0 ≤ i ∧ i < n then l[i.toNat]? else none
def grd {α : Type} (p : Prop) [Decidable p] (k : Option α) : Option α := if p then k else none
def Let {α β : Type} (e : α) (k : α → β) : β := k e
abbrev sLt (a b : ByteArray) : Bool := Op.bytesLess a.toList b.toList

theorem grd_some {α : Type} {p : Prop} [Decidable p] {k : Option α} {r : α} (h : grd p k = some r) : p ∧ k = some r := by
  unfold grd at h; split at h
  · rename_i hp; exact ⟨hp, h⟩
  · cases h
theorem Let_some {α β : Type} {e : α} {k : α → β} {r : β} (h : Let e k = r) : ∃ x, e = x ∧ k x = r := ⟨e, rfl, h⟩
theorem bind_some {α β : Type} {x : Option α} {k : α → Option β} {r : β} (h : x.bind k = some r) : ∃ y, x = some y ∧ k y = some r := Option.bind_eq_some_iff.1 h
theorem cond_t {α : Type} {b : Bool} {x y : α} {r : α} (hb : b = true) (h : cond b x y = r) : x = r := by subst hb; exact h
theorem cond_f {α : Type} {b : Bool} {x y : α} {r : α} (hb : b = false) (h : cond b x y = r) : y = r := by subst hb; exact h
theorem map_inr {S R : Type} {x : Option R} {o : S ⊕ R} (h : x.map Sum.inr = some o) : ∃ r, x = some r ∧ o = .inr r := by
  obtain ⟨r, h1, h2⟩ := Option.map_eq_some_iff.1 h; exact ⟨r, h1, h2.symm⟩

theorem all0 : ∀ p ∈ ([] : List Prop), p := fun _ h => by cases h
theorem allc {a : Prop} {l : List Prop} (ha : a) (hl : ∀ p ∈ l, p) : ∀ p ∈ (a :: l), p := by
  intro p hp
  rcases List.mem_cons.1 hp with rfl | hp
  · exact ha
  · exact hl p hp

section
variable {α : Type} {e : α → List D} {sz : Nat}

theorem encL_len (he : ∀ x, (e x).length = sz) : ∀ l : List α, (encL e l).length = l.length * sz
  | [] => by simp [encL]
  | x :: l => by
    have := encL_len he l
    unfold encL at *
    rw [List.flatMap_cons, List.length_append, this, he]
    simp [Nat.add_mul, Nat.add_comm]

theorem encL_at (he : ∀ x, (e x).length = sz) : ∀ (l : List α) (i : Nat) (x : α), l[i]? = some x → ((encL e l).drop (i * sz)).take sz = e x
  | [], i, x, h => by simp at h
  | y :: l, 0, x, h => by
    simp at h; subst h
    unfold encL
    rw [List.flatMap_cons]
    simp only [Nat.zero_mul, List.drop_zero]
    rw [← he y, List.take_left']
    rfl
  | y :: l, i + 1, x, h => by
    have h2 := encL_at he l i x (by simpa using h)
    unfold encL at *
    rw [List.flatMap_cons]
    rw [show (i + 1) * sz = (e y).length + i * sz by rw [he]; rw [Nat.add_mul]; omega]
    rw [List.drop_append, List.drop_eq_nil_of_le (by omega)]
    simpa using h2

theorem elemAt_of (he : ∀ x, (e x).length = sz) {l : List α} {i : Int} {x : α} (h : lAt l i = some x) : ElemAt sz l.length (encL e l) i (e x) := by
  unfold lAt at h
  split at h
  · rename_i h0
    have hl := lt_of_getL h
    exact ⟨h0, by omega, encL_at he l _ x h⟩
  · cases h

theorem encL_app (e : α → List D) (l m : List α) : encL e l ++ encL e m = encL e (l ++ m) := by simp [encL]
theorem len_app (l m : List α) : l.length + m.length = (l ++ m).length := by simp
theorem encL_map (k : IntKind) (l : List Int) : encL (eInt k) l = l.map (D.int k) := by
  induction l with
  | nil => rfl
  | cons x l ih => unfold encL at *; rw [List.flatMap_cons, ih]; rfl
theorem encL_sB (s : ByteArray) : (s.data.toList.map fun b => D.int .u8 b.toNat) = encL (eInt .u8) (sB s) := by
  rw [encL_map, sB, List.map_map]; rfl
theorem len_sB (s : ByteArray) : s.size = (sB s).length := by simp [sB]

/-- Elements of one cell, by place. -/
theorem encL_one (he : ∀ x, (e x).length = 1) : ∀ (l : List α) (i : Nat) (x : α) (d : D), l[i]? = some x → e x = [d] → (encL e l)[i]? = some d
  | [], i, x, d, h, _ => by simp at h
  | y :: l, 0, x, d, h, hd => by simp at h; subst h; unfold encL; rw [List.flatMap_cons, hd]; rfl
  | y :: l, i + 1, x, d, h, hd => by
    have h2 := encL_one he l i x d (by simpa using h) hd
    unfold encL at *
    rw [List.flatMap_cons]
    have hy := he y
    rw [List.getElem?_append_right (by omega), hy]
    simpa using h2

theorem encL_set (he : ∀ x, (e x).length = 1) : ∀ (l : List α) (i : Nat) (x : α) (d : D), e x = [d] → (encL e l).set i d = encL e (l.set i x)
  | [], i, x, d, _ => by simp [encL]
  | y :: l, 0, x, d, hd => by
    unfold encL
    rw [List.set_cons_zero, List.flatMap_cons, List.flatMap_cons, hd]
    have hy := he y
    match hq : e y, hy with
    | [z], _ => rfl
  | y :: l, i + 1, x, d, hd => by
    have h2 := encL_set he l i x d hd
    unfold encL at *
    rw [List.set_cons_succ, List.flatMap_cons, List.flatMap_cons]
    have hy := he y
    match hq : e y, hy with
    | [z], _ => simp [h2]
end

theorem norm {P : Program} {ro : Option Nat} {E : Entry} {n : Nat} {y : Code} {Q : Exit → Act → World → Prop} {st : St} (h : At P ro E n y Q st) : ∀ a w, Sim E n st a w → Exit.then (y.wpIn (wd ro) 0 P Q) Q .normal a w := h

open Classical in
/-- Facts that single operations ask. -/
theorem aAt_of {α : Type} {e : α → List D} (he : ∀ x, (e x).length = 1) {n : Nat} {l : List α} {i : Int} {x : α} {d : D} (h : aAt n l i = some x) (hd : e x = [d]) : Within i n ∧ (encL e l)[0 + i.toNat * 1]? = some d := by
  unfold aAt at h
  split at h
  · rename_i hb
    refine ⟨hb, ?_⟩
    rw [Nat.zero_add, Nat.mul_one]
    exact encL_one he l _ x d h hd
  · cases h
theorem app_ok {α : Type} {e : α → List D} {sz B m : Nat} (he : ∀ x, (e x).length = sz) (hB : 0 < B) {l : List α} (h : (l.length + m) * B ≤ 140737488355328) :
    (encL e l).length = l.length * sz ∧ l.length + m ≤ 281474976710656 ∧ (l.length + m) * B ≤ 140737488355328 := by
  refine ⟨encL_len he l, ?_, h⟩
  have := Nat.le_mul_of_pos_right (l.length + m) hB
  omega

def lCut {α : Type} (l : List α) (lo hi : Int) : List α := (l.drop lo.toNat).take (hi - lo).toNat

section
variable {α : Type} {e : α → List D} {sz : Nat}

theorem encL_drop (he : ∀ x, (e x).length = sz) : ∀ (l : List α) (k : Nat), (encL e l).drop (k * sz) = encL e (l.drop k)
  | l, 0 => by simp
  | [], k + 1 => by simp [encL]
  | x :: l, k + 1 => by
    have ih := encL_drop he l k
    unfold encL at *
    rw [List.drop_succ_cons, ← ih, List.flatMap_cons, show (k + 1) * sz = (e x).length + k * sz by rw [he, Nat.add_mul]; omega, List.drop_append, List.drop_eq_nil_of_le (by omega)]
    simp
theorem encL_take (he : ∀ x, (e x).length = sz) : ∀ (l : List α) (k : Nat), (encL e l).take (k * sz) = encL e (l.take k)
  | l, 0 => by simp [encL]
  | [], k + 1 => by simp [encL]
  | x :: l, k + 1 => by
    have ih := encL_take he l k
    unfold encL at *
    rw [List.take_succ_cons, List.flatMap_cons, List.flatMap_cons, ← ih, show (k + 1) * sz = (e x).length + k * sz by rw [he, Nat.add_mul]; omega, List.take_append, List.take_of_length_le (by omega)]
    simp
theorem cut_ok (he : ∀ x, (e x).length = sz) {l : List α} {lo hi : Int} (h : 0 ≤ lo ∧ lo ≤ hi ∧ hi ≤ (l.length : Int)) :
    (hi - lo).toNat = (lCut l lo hi).length ∧ ((encL e l).drop (lo.toNat * sz)).take ((hi - lo).toNat * sz) = encL e (lCut l lo hi) := by
  refine ⟨?_, ?_⟩
  · unfold lCut; simp; omega
  · rw [encL_drop he, encL_take he]; rfl
theorem rAt_of (he : ∀ x, (e x).length = 1) {l : List α} {i : Int} {x : α} {d : D} (h : lAt l i = some x) (hd : e x = [d]) : Within i l.length ∧ (encL e l)[i.toNat * 1]? = some d := by
  unfold lAt at h
  split at h
  · rename_i hb
    have := lt_of_getL h
    refine ⟨⟨hb, by omega⟩, ?_⟩
    rw [Nat.mul_one]
    exact encL_one he l _ x d h hd
  · cases h
theorem setCs_one (he : ∀ x, (e x).length = 1) (l : List α) (k : Nat) (x : α) : setCs (encL e l) k (e x) = encL e (l.set k x) := by
  match hq : e x, he x with
  | [d], _ => exact encL_set he l k x d hq
theorem aSet_ok (he : ∀ x, (e x).length = 1) {l : List α} (x : α) {i : Int} {n : Nat} (h : 0 ≤ i ∧ i < (n : Int) ∧ i.toNat < l.length) :
    setCs (encL e l) (0 + i.toNat * 1) (e x) = encL e (l.set i.toNat x) ∧ 0 + i.toNat * 1 + (e x).length ≤ (encL e l).length := by
  have := encL_len he l
  have := he x
  refine ⟨?_, by omega⟩
  rw [Nat.zero_add, Nat.mul_one]; exact setCs_one he l _ x
theorem len_rep (n : Nat) (x : α) : n = (List.replicate n x).length := by simp
theorem len_appS (l : List Int) (s : ByteArray) : l.length + s.size = (l ++ sB s).length := by rw [len_sB, List.length_append]
theorem encL_appS (l : List Int) (s : ByteArray) : encL (eInt .u8) l ++ (s.data.toList.map fun b => D.int .u8 b.toNat) = encL (eInt .u8) (l ++ sB s) := by rw [encL_sB, encL_app]
end

theorem he_int (k : IntKind) : ∀ x, (eInt k x).length = 1 := fun _ => rfl
theorem he_str : ∀ x, (eStr x).length = 1 := fun _ => rfl
theorem lenN {α : Type} {e : α → List D} (he : ∀ x, (e x).length = 1) (l : List α) {n : Nat} (h : l.length = n) : (encL e l).length = n := by rw [encL_len he, Nat.mul_one, h]
theorem lenM {α : Type} {e : α → List D} {sz : Nat} (he : ∀ x, (e x).length = sz) (l : List α) {n m : Nat} (h : l.length = n) (hm : n * sz = m) : (encL e l).length = m := by rw [encL_len he, h, hm]
theorem relen {E : Entry} {n : Nat} {st1 st2 : St} {q : Act → World → Prop} (h : st1 = st2) (hq : ∀ a w, Sim E n st2 a w → q a w) : ∀ a w, Sim E n st1 a w → q a w := h ▸ hq

/-! Elements of several cells, in rows. -/
section
variable {α : Type} {e : α → List D} {sz : Nat}
theorem rEl {l : List α} {i : Int} {x : α} (h : lAt l i = some x) : Within i l.length := by
  unfold lAt at h
  split at h
  · rename_i hb
    have := lt_of_getL h
    exact ⟨hb, by omega⟩
  · cases h
theorem lAt_get {l : List α} {i : Int} {x : α} (h : lAt l i = some x) : l[i.toNat]? = some x := by
  unfold lAt at h; split at h
  · exact h
  · cases h
theorem el_seg (he : ∀ x, (e x).length = sz) {l : List α} {k : Nat} {x : α} (h : l[k]? = some x) (off n : Nat) (hn : off + n ≤ sz) :
    k * sz + off + n ≤ (encL e l).length ∧ ((encL e l).drop (k * sz + off)).take n = ((e x).drop off).take n := by
  have hk := lt_of_getL h
  have hlen := encL_len he l
  have hm : k * sz + sz ≤ l.length * sz := by
    have := Nat.mul_le_mul_right sz (Nat.succ_le_of_lt hk)
    rw [Nat.succ_mul] at this; exact this
  refine ⟨by omega, ?_⟩
  have h1 := encL_at he l k x h
  rw [← h1, ← List.drop_drop]
  apply List.ext_getElem?
  intro j
  rw [List.getElem?_take, List.getElem?_take]
  split
  · rename_i hj
    simp only [List.getElem?_drop, List.getElem?_take]
    rw [if_pos (by omega)]
  · rfl
theorem rElC (he : ∀ x, (e x).length = sz) {l : List α} {i : Int} {x : α} (h : lAt l i = some x) (off n : Nat) (hn : off + n ≤ sz) {xs : List D} (hx : ((e x).drop off).take n = xs) :
    CellsAt (encL e l) (i.toNat * sz + off) n xs := by
  obtain ⟨h1, h2⟩ := el_seg he (lAt_get h) off n hn
  exact ⟨h1, h2.trans hx⟩
theorem rElV (he : ∀ x, (e x).length = sz) {l : List α} {i : Int} {x : α} (h : lAt l i = some x) (off : Nat) (hn : off + 1 ≤ sz) {d : D} (hx : (e x)[off]? = some d) :
    (encL e l)[i.toNat * sz + off]? = some d := by
  obtain ⟨h1, h2⟩ := el_seg he (lAt_get h) off 1 hn
  have := congrArg (fun q => q[0]?) h2
  simpa [hx] using this
end

theorem encL_repM {α : Type} (e : α → List D) (x : α) {ds : List D} (h : e x = ds) : ∀ n : Nat, (List.replicate n ds).flatten = encL e (List.replicate n x)
  | 0 => rfl
  | n + 1 => by
    have := encL_repM e x h n
    unfold encL at *
    rw [List.replicate_succ, List.replicate_succ, List.flatMap_cons, List.flatten_cons, ← this, h]
section
variable {α : Type} {e : α → List D} {sz : Nat}
theorem setM (he : ∀ x, (e x).length = sz) (sub : Nat) (y : α) {vs : List D} (hl : sub + vs.length ≤ sz) : ∀ (l : List α) (k : Nat) (x : α), l[k]? = some x → e y = setCs (e x) sub vs → setCs (encL e l) (k * sz + sub) vs = encL e (l.set k y)
  | [], k, x, h, _ => by simp at h
  | z :: l, 0, x, h, hy => by
    simp at h; subst h
    have hz := he z
    have e0 : encL e (z :: l) = e z ++ encL e l := by simp [encL]
    have e1 : encL e ((z :: l).set 0 y) = e y ++ encL e l := by simp [encL]
    have h1 : 0 * sz + sub + vs.length ≤ (e z ++ encL e l).length := by rw [List.length_append, hz]; omega
    rw [e0, e1, hy]
    apply List.ext_getElem?
    intro j
    rw [setCs_get h1]
    have h2 : sub + vs.length ≤ (e z).length := by omega
    have h3 := setCs_length (cs := e z) (vs := vs) (off := sub) h2
    rcases Nat.lt_or_ge j (e z).length with hj | hj
    · rw [List.getElem?_append_left hj, List.getElem?_append_left (l₁ := setCs (e z) sub vs) (by rw [h3]; exact hj), setCs_get h2, Nat.zero_mul, Nat.zero_add]
    · rw [List.getElem?_append_right hj, List.getElem?_append_right (l₁ := setCs (e z) sub vs) (by rw [h3]; exact hj), h3, if_neg (by omega)]
  | z :: l, k + 1, x, h, hy => by
    have ih := setM he sub y hl l k x (by simpa using h) hy
    have hk := lt_of_getL (show l[k]? = some x by simpa using h)
    have hz := he z
    have e0 : encL e (z :: l) = e z ++ encL e l := by simp [encL]
    have e1 : encL e ((z :: l).set (k + 1) y) = e z ++ encL e (l.set k y) := by simp [encL]
    have hlen := encL_len he l
    have hm : k * sz + sz ≤ l.length * sz := by
      have := Nat.mul_le_mul_right sz (Nat.succ_le_of_lt hk)
      rw [Nat.succ_mul] at this; exact this
    have hks : (k + 1) * sz = k * sz + sz := Nat.succ_mul k sz
    have h1 : (k + 1) * sz + sub + vs.length ≤ (e z ++ encL e l).length := by rw [List.length_append, hz, hlen, hks]; omega
    have h2 : k * sz + sub + vs.length ≤ (encL e l).length := by rw [hlen]; omega
    rw [e0, e1, ← ih]
    apply List.ext_getElem?
    intro j
    rw [setCs_get h1]
    rcases Nat.lt_or_ge j (e z).length with hj | hj
    · rw [List.getElem?_append_left hj, List.getElem?_append_left hj, if_neg (by omega)]
    · rw [List.getElem?_append_right hj, List.getElem?_append_right hj, setCs_get h2]
      by_cases hc : k * sz + sub ≤ j - (e z).length ∧ j - (e z).length < k * sz + sub + vs.length
      · rw [if_pos hc, if_pos (by omega)]
        congr 1; omega
      · rw [if_neg hc, if_neg (by omega)]
theorem rSetM (he : ∀ x, (e x).length = sz) {l : List α} {i : Int} {x : α} (h : lAt l i = some x) (sub : Nat) (y : α) {vs : List D} (hy : e y = setCs (e x) sub vs) (hl : sub + vs.length ≤ sz) :
    setCs (encL e l) (i.toNat * sz + sub) vs = encL e (l.set i.toNat y) ∧ i.toNat * sz + sub + vs.length ≤ (encL e l).length := by
  have hg := lAt_get h
  refine ⟨setM he sub y hl l _ x hg hy, ?_⟩
  have hk := lt_of_getL hg
  have hlen := encL_len he l
  have hm : i.toNat * sz + sz ≤ l.length * sz := by
    have := Nat.mul_le_mul_right sz (Nat.succ_le_of_lt hk)
    rw [Nat.succ_mul] at this; exact this
  omega
end

/-! Maps of any keys. -/
def mGet {α : Type} : List (Int × α) → Int → Option α
  | [], _ => none
  | p :: l, k => if k == p.1 then some p.2 else mGet l k
def mPut {α : Type} : List (Int × α) → Int → α → List (Int × α)
  | [], k, x => [(k, x)]
  | p :: l, k, x => if k == p.1 then (p.1, x) :: l else p :: mPut l k x
def encM {α : Type} (kk : IntKind) (e : α → List D) (l : List (Int × α)) : List (D × List D) := l.map fun p => (.int kk p.1, e p.2)
theorem dget_enc {α : Type} (kk : IntKind) (e : α → List D) (z : α) {l : List (Int × α)} {n : Int} {y : Option α} (h : mGet l n = y) : dget kk n (e z) (encM kk e l) = some (e (y.getD z), y.isSome) := by
  subst h
  induction l with
  | nil => rfl
  | cons p l ih =>
    simp only [encM, List.map_cons, dget, mGet, if_true]
    split
    · rfl
    · exact ih
theorem dput_enc {α : Type} (kk : IntKind) (e : α → List D) (n : Int) (x : α) (l : List (Int × α)) : dput kk n (e x) (encM kk e l) = some (encM kk e (mPut l n x)) := by
  induction l with
  | nil => rfl
  | cons p l ih =>
    simp only [encM, List.map_cons, dput, mPut, if_true]
    split
    · rfl
    · rw [show (l.map fun p => (D.int kk p.1, e p.2)) = encM kk e l from rfl, ih]; rfl
theorem aIxM {α : Type} {e : α → List D} {sz : Nat} (he : ∀ x, (e x).length = sz) {n : Nat} {l : List α} {i : Int} {x : α} (h : aAt n l i = some x) : Within i n ∧ CellsAt (encL e l) (i.toNat * sz) sz (e x) := by
  unfold aAt at h
  split at h
  · rename_i hb
    refine ⟨hb, ?_⟩
    have := rElC he (l := l) (i := i) (x := x) (by unfold lAt; rw [if_pos hb.1]; exact h) 0 sz (by omega) (xs := e x) (by rw [List.drop_zero, ← he x, List.take_length])
    rwa [Nat.add_zero] at this
  · cases h

end Go.Ab
