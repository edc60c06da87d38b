/- Steps whose states are not written out. -/
import Derived.Test.YtholdfpblliiiaaGreatAbNil
import Derived.Test.YtholdfpblliiiaaGreatAbLib
namespace Go.Ab
def stOf : Option (St × List Prop) → St
  | some p => p.1
  | none => ⟨[], []⟩
def stO : Option St → St
  | some s => s
  | none => ⟨[], []⟩
def obs : Option (St × List Prop) → Option (List Prop)
  | some p => some p.2
  | none => none
def isS : Option St → Bool
  | some _ => true
  | none => false
theorem of_obs {x : Option (St × List Prop)} {l : List Prop} (h : obs x = some l) : x = some (stOf x, l) := by
  cases x with
  | none => cases h
  | some p => cases h; rfl
theorem of_isS {x : Option St} (h : isS x = true) : x = some (stO x) := by
  cases x with
  | none => cases h
  | some p => rfl
section
variable {P : Program} {ro : Option Nat} {E : Entry} {n : Nat}
theorem At.rg {id : Nat} {ops : Array Oper} {Q : Exit → Act → World → Prop} {st : St} {obl : List Prop} (ks ρ : List Nat) (tips : List (Nat × Tip)) (h : obs (finR ks ρ (marksOf st.σ) (runN P n ops (marksOf st.σ) tips 0 ops.toList st.env st.σ)) = some obl) (ho : ∀ p ∈ obl, p)
    (hQ : ∀ a w, Sim E n (stOf (finR ks ρ (marksOf st.σ) (runN P n ops (marksOf st.σ) tips 0 ops.toList st.env st.σ))) a w → Q .normal a w) : At P ro E n (.region id ops false) Q st :=
  At.region_end ks ρ obl (of_obs h) ho hQ
theorem At.dg {id : Nat} {ops : Array Oper} {Q : Exit → Act → World → Prop} {st : St} {obl : List Prop} (hm : P.follows .mixedOrders = true) (pad : Nat) (ks ρ : List Nat) (tips : List (Nat × TipD)) (h : obs (finR ks ρ (marksOf st.σ) (runDD P n ops tips pad st)) = some obl) (ho : ∀ p ∈ obl, p)
    (hQ : ∀ a w, Sim E n (stOf (finR ks ρ (marksOf st.σ) (runDD P n ops tips pad st))) a w → Q .normal a w) : At P ro E n (.region id ops true) Q st :=
  At.draw_end hm pad ks ρ obl (of_obs h) ho hQ
theorem At.nr {c : Code} {Q : Exit → Act → World → Prop} {st : St} (ks ρ : List Nat) (h : isS (narR ks ρ st) = true) (h2 : At P ro E n c Q (stO (narR ks ρ st))) : At P ro E n c Q st :=
  At.nar ks ρ (of_isS h) h2
theorem At.en {c : Code} {Q : Exit → Act → World → Prop} {st : St} (l : List Ed) (ks ρ : List Nat) (h : isS (Go.Ab.edNar l ks ρ st) = true) (h2 : At P ro E n c Q (stO (Go.Ab.edNar l ks ρ st))) : At P ro E n c Q st :=
  At.edNar l ks ρ (of_isS h) h2
end
theorem within_lit {i m : Int} (n : Nat) (h : i = m) (hm : (decide (0 ≤ m) && decide (m < (n : Int))) = true) : Within i n := by
  simp only [Bool.and_eq_true, decide_eq_true_eq] at hm
  subst h; exact hm
end Go.Ab
