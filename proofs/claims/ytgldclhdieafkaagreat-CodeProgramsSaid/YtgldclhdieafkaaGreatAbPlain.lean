/- Loops and places, plainly. -/
import Derived.Test.YtgldclhdieafkaaGreatAbEval
namespace Go.Ab
theorem w64i {n : Int} (h0 : -9223372036854775808 ≤ n) (h1 : n ≤ 9223372036854775807) : w64 n = n := by rw [w64,IntKind.wrap_i64]; omega
theorem w64s {k : Nat} (h : k < 9223372036854775807) : w64 ((k : Int) + 1) = ((k + 1 : Nat) : Int) := by rw [w64i (by omega) (by omega)]; rfl
theorem JF {α : Type} {p : Prop} [Decidable p] (h : p) (k : Option α) : grd p k = k := if_pos h
theorem lAtn {α : Type} (l : List α) (k : Nat) : lAt l (k : Int) = l[k]? := by
 unfold lAt; rw [if_pos (by omega)]; rfl
theorem Gw {α : Type} {l : List α} {k : Nat} (h : k < l.length) : lAt l (k : Int) = some l[k] := by rw [lAtn,List.getElem?_eq_getElem h]
theorem HY {α : Type} {l : List α} {k : Nat} (h : k < l.length) : l.take (k + 1) = l.take k ++ [l[k]] := by rw [List.take_add_one,List.getElem?_eq_getElem h]; rfl
theorem beqf {a b : Int} (h : ¬ a = b) : (a == b) = false := by simpa using h
theorem beqt {a b : Int} (h : a = b) : (a == b) = true := by simpa using h
theorem dcf {p : Prop} [Decidable p] (h : ¬ p) : decide p = false := decide_eq_false h
theorem dct {p : Prop} [Decidable p] (h : p) : decide p = true := decide_eq_true h
theorem Ln {S R : Type} {step : S → Option (S ⊕ R)} (st : Nat → S) (n : Nat) {r : R} (h : ∀ k,k < n → step (st k) = some (.inl (st (k + 1)))) (hr : step (st n) = some (.inr r)) : Loop step (st 0) = some r := by
 have key : ∀ d k,k + d = n → Loop step (st k) = some r := by
  intro d
  induction d with
  | zero => intro k hk; rw [show k = n by omega]; exact Loop_inr hr
  | succ d ih => intro k hk; rw [Loop_inl (h k (by omega))]; exact ih (k + 1) (by omega)
 exact key n 0 (by omega)
theorem Loop_ex {S R : Type} {step : S → Option (S ⊕ R)} (I : S → Prop) (m : S → Nat) (Q : R → Prop) (h : ∀ s,I s → (∃ s',step s = some (.inl s') ∧ I s' ∧ m s' < m s) ∨ ∃ r,step s = some (.inr r) ∧ Q r) (s : S) (hs : I s) : ∃ r,Loop step s = some r ∧ Q r := by
 have key : ∀ n s,m s ≤ n → I s → ∃ r,Loop step s = some r ∧ Q r := by
  intro n
  induction n with
  | zero =>
    intro s hm hs
    rcases h s hs with ⟨s',h1,h2,h3⟩ | ⟨r,h1,h2⟩
    · omega
    · exact ⟨r,Loop_inr h1,h2⟩
  | succ n ih =>
    intro s hm hs
    rcases h s hs with ⟨s',h1,h2,h3⟩ | ⟨r,h1,h2⟩
    · rw [Loop_inl h1]; exact ih s' (by omega) h2
    · exact ⟨r,Loop_inr h1,h2⟩
 exact key (m s) s (Nat.le_refl _) hs
end Go.Ab
