/- Loops and places, plainly. -/
import Derived.Test.YtkkaknlijebppaaAbEval
namespace Go.Ab
theorem w64i {n : Int} (h0 : -9223372036854775808 ≤ n) (h1 : n ≤ 9223372036854775807) : w64 n = n := by rw [w64, IntKind.wrap_i64]; omega
theorem w64s {k : Nat} (h : k < 9223372036854775807) : w64 ((k : Int) + 1) = ((k + 1 : Nat) : Int) := by rw [w64i (by omega) (by omega)]; rfl
theorem grd_t {α : Type} {p : Prop} [Decidable p] (h : p) (k : Option α) : grd p k = k := if_pos h
theorem lAtn {α : Type} (l : List α) (k : Nat) : lAt l (k : Int) = l[k]? := by
  unfold lAt; rw [if_pos (by omega)]; rfl
theorem lAt_lt {α : Type} {l : List α} {k : Nat} (h : k < l.length) : lAt l (k : Int) = some l[k] := by rw [lAtn, List.getElem?_eq_getElem h]
theorem take_snoc {α : Type} {l : List α} {k : Nat} (h : k < l.length) : l.take (k + 1) = l.take k ++ [l[k]] := by rw [List.take_add_one, List.getElem?_eq_getElem h]; rfl
theorem beqf {a b : Int} (h : ¬ a = b) : (a == b) = false := by simpa using h
theorem beqt {a b : Int} (h : a = b) : (a == b) = true := by simpa using h
theorem dcf {p : Prop} [Decidable p] (h : ¬ p) : decide p = false := decide_eq_false h
theorem dct {p : Prop} [Decidable p] (h : p) : decide p = true := decide_eq_true h
/-- A loop that counts. -/
theorem Loop_nat {S R : Type} {step : S → Option (S ⊕ R)} (st : Nat → S) (n : Nat) {r : R} (h : ∀ k, k < n → step (st k) = some (.inl (st (k + 1)))) (hr : step (st n) = some (.inr r)) : Loop step (st 0) = some r := by
  have key : ∀ d k, k + d = n → Loop step (st k) = some r := by
    intro d
    induction d with
    | zero => intro k hk; rw [show k = n by omega]; exact Loop_inr hr
    | succ d ih => intro k hk; rw [Loop_inl (h k (by omega))]; exact ih (k + 1) (by omega)
  exact key n 0 (by omega)
/-- A loop with something that holds, and something that falls. -/
theorem Loop_ex {S R : Type} {step : S → Option (S ⊕ R)} (I : S → Prop) (m : S → Nat) (Q : R → Prop) (h : ∀ s, I s → (∃ s', step s = some (.inl s') ∧ I s' ∧ m s' < m s) ∨ ∃ r, step s = some (.inr r) ∧ Q r) (s : S) (hs : I s) : ∃ r, Loop step s = some r ∧ Q r := by
  have key : ∀ n s, m s ≤ n → I s → ∃ r, Loop step s = some r ∧ Q r := by
    intro n
    induction n with
    | zero =>
      intro s hm hs
      rcases h s hs with ⟨s', h1, h2, h3⟩ | ⟨r, h1, h2⟩
      · omega
      · exact ⟨r, Loop_inr h1, h2⟩
    | succ n ih =>
      intro s hm hs
      rcases h s hs with ⟨s', h1, h2, h3⟩ | ⟨r, h1, h2⟩
      · rw [Loop_inl h1]; exact ih s' (by omega) h2
      · exact ⟨r, Loop_inr h1, h2⟩
  exact key (m s) s (Nat.le_refl _) hs
/-- Lists compared place by place. -/
theorem Loop_same {α : Type} (a b : List α) (hl : a.length = b.length) (eq : α → α → Bool) (heq : ∀ x y, eq x y = true ↔ x = y) (hlen : a.length < 9223372036854775807) {step : Int → Option (Int ⊕ Bool)}
    (h : ∀ (k : Nat) (x y : α), a[k]? = some x → b[k]? = some y → step (k : Int) = if eq x y then some (.inl (w64 ((k : Int) + 1))) else some (.inr false)) (hr : step (a.length : Int) = some (.inr true)) (d : Bool) (hd : d = true ↔ a = b) : Loop step 0 = some d := by
  have key : ∀ n k, k + n = a.length → (∀ j, j < k → a[j]? = b[j]?) → Loop step (k : Int) = some d := by
    intro n
    induction n with
    | zero =>
      intro k hk hall
      have : k = a.length := by omega
      subst this
      have e : a = b := by
        apply List.ext_getElem?
        intro j
        rcases Nat.lt_or_ge j a.length with hj | hj
        · exact hall j hj
        · rw [List.getElem?_eq_none hj, List.getElem?_eq_none (by omega)]
      rw [Loop_inr hr, hd.2 e]
    | succ n ih =>
      intro k hk hall
      have ha := List.getElem?_eq_getElem (show k < a.length by omega)
      have hb := List.getElem?_eq_getElem (show k < b.length by omega)
      have hs := h k _ _ ha hb
      cases he : eq (a[k]'(by omega)) (b[k]'(by omega)) with
      | true =>
        rw [he, if_pos rfl, w64s (by omega)] at hs
        rw [Loop_inl hs]
        refine ih (k + 1) (by omega) fun j hj => ?_
        rcases Nat.lt_or_ge j k with h1 | h1
        · exact hall j h1
        · have : j = k := by omega
          subst this
          rw [ha, hb, (heq _ _).1 he]
      | false =>
        rw [he] at hs
        simp only [Bool.false_eq_true, if_false] at hs
        rw [Loop_inr hs]
        cases d with
        | false => rfl
        | true =>
          have := hd.1 rfl
          subst this
          have : eq (a[k]'(by omega)) (a[k]'(by omega)) = true := (heq _ _).2 rfl
          rw [this] at he; cases he
  have := key a.length 0 (by omega) (fun j hj => by omega)
  simpa using this
end Go.Ab
