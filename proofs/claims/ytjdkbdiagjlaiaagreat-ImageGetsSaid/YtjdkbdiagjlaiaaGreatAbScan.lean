/- Loops over a list's places, plainly. -/
import Derived.Test.YtjdkbdiagjlaiaaGreatAbTot
namespace Go.Ab
set_option linter.unusedVariables false
def scan {S α R : Type} (g : S → α → S ⊕ R) (fin : S → R) : List α → S → R
  | [], s => fin s
  | x :: l, s => match g s x with
    | .inl s' => scan g fin l s'
    | .inr r => r
theorem Loop_scan {S' S α R : Type} {step : S' → Option (S' ⊕ R)} (l : List α) (hl : l.length < 9223372036854775808) (g : S → α → S ⊕ R) (fin : S → R) (emb : S → Int → S') (I : Nat → S → Prop)
    (h1 : ∀ (k : Nat) (h : k < l.length) (s : S), I k s → step (emb s (k : Int)) = some (Sum.map (fun s' => emb s' (w64 ((k : Int) + 1))) id (g s l[k])))
    (hI : ∀ (k : Nat) (h : k < l.length) (s s' : S), I k s → g s l[k] = .inl s' → I (k + 1) s')
    (h2 : ∀ s, I l.length s → step (emb s (l.length : Int)) = some (.inr (fin s))) (s : S) (h0 : I 0 s) : Loop step (emb s 0) = some (scan g fin l s) := by
  have key : ∀ n k s, k + n = l.length → I k s → Loop step (emb s (k : Int)) = some (scan g fin (l.drop k) s) := by
    intro n
    induction n with
    | zero =>
      intro k s hk hi
      have : k = l.length := by omega
      subst this
      rw [Loop_inr (h2 s hi), List.drop_length]
      rfl
    | succ n ih =>
      intro k s hk hi
      have hkl : k < l.length := by omega
      have e := h1 k hkl s hi
      rw [List.drop_eq_getElem_cons hkl, scan]
      cases hg : g s l[k] with
      | inl s' =>
        rw [hg] at e
        rw [Loop_inl e, w64s (by omega)]
        exact ih (k + 1) s' (by omega) (hI k hkl s s' hi hg)
      | inr r =>
        rw [hg] at e
        exact Loop_inr e
  exact key l.length 0 s (by omega) h0
end Go.Ab
