/- Loops over a list's places, plainly. -/
import Derived.Test.YtkkaknlijebppaaAbTot
namespace Go.Ab
set_option linter.unusedVariables false
def scan {S α R : Type} (g : S → α → S ⊕ R) (fin : S → R) : List α → S → R
  | [], s => fin s
  | x :: l, s => match g s x with
    | .inl s' => scan g fin l s'
    | .inr r => r
theorem Loop_scan {S' S α R : Type} {step : S' → Option (S' ⊕ R)} (l : List α) (hl : l.length < 9223372036854775808) (g : S → α → S ⊕ R) (fin : S → R) (emb : S → Int → S') (I : Nat → S → Prop)
    (h1 : ∀ (k : Nat) (h : k < l.length) (s : S), I k s → step (emb s (k : Int)) = some (Sum.map (fun s' => emb s' (w64 ((k : Int) + 1))) id (g s l[k])))
    (hI : ∀ (k : Nat) (h : k < l.length) (s s' : S), I k s → g s l[k] = .inl s' → I (k + 1) s')
    (h2 : ∀ s, I l.length s → step (emb s (l.length : Int)) = some (.inr (fin s))) (s : S) (h0 : I 0 s) : Loop step (emb s 0) = some (scan g fin l s) := by
  have key : ∀ n k s, k + n = l.length → I k s → Loop step (emb s (k : Int)) = some (scan g fin (l.drop k) s) := by
    intro n
    induction n with
    | zero =>
      intro k s hk hi
      have : k = l.length := by omega
      subst this
      rw [Loop_inr (h2 s hi), List.drop_length]
      rfl
    | succ n ih =>
      intro k s hk hi
      have hkl : k < l.length := by omega
      have e := h1 k hkl s hi
      rw [List.drop_eq_getElem_cons hkl, scan]
      cases hg : g s l[k] with
      | inl s' =>
        rw [hg] at e
        rw [Loop_inl e, w64s (by omega)]
        exact ih (k + 1) s' (by omega) (hI k hkl s s' hi hg)
      | inr r =>
        rw [hg] at e
        exact Loop_inr e
  exact key l.length 0 s (by omega) h0
/-- a loop that looks whether all are -/
theorem Loop_all {α R : Type} {step : Int → Option (Int ⊕ R)} (l : List α) (hl : l.length < 9223372036854775808) (p : α → Bool) (yes no : R)
    (h1 : ∀ (k : Nat) (h : k < l.length), step (k : Int) = if p l[k] = true then some (.inl (w64 ((k : Int) + 1))) else some (.inr no))
    (h2 : step (l.length : Int) = some (.inr yes)) : Loop step 0 = some (if l.all p = true then yes else no) := by
  have e := Loop_scan (step := step) l hl (fun (_ : Unit) x => if p x = true then .inl () else .inr no) (fun _ => yes) (fun _ i => i) (fun _ _ => True)
    (fun k h s _ => by rw [h1 k h]; split <;> rfl) (fun _ _ _ _ _ _ => trivial) (fun _ _ => h2) () trivial
  rw [e]
  have : ∀ l : List α, scan (fun (_ : Unit) x => if p x = true then (.inl () : Unit ⊕ R) else .inr no) (fun _ => yes) l () = if l.all p = true then yes else no := by
    intro l
    induction l with
    | nil => rfl
    | cons x l ih =>
      rw [scan]
      rw [List.all_cons]
      cases hp : p x with
      | true => exact ih
      | false => rfl
  rw [this]
end Go.Ab
