/- Steps whose states are not written out. -/
import Derived.Test.YtgldclhdieafkaaGreatAbNil
import Derived.Test.YtgldclhdieafkaaGreatAbLib
namespace Go.Ab
def stOf : Option (St × List Prop) → St
 | some p => p.1
 | none => ⟨[],[]⟩
def stO : Option St → St
 | some s => s
 | none => ⟨[],[]⟩
def obs : Option (St × List Prop) → Option (List Prop)
 | some p => some p.2
 | none => none
def isS : Option St → Bool
 | some _ => true
 | none => false
theorem R4 {x : Option (St × List Prop)} {l : List Prop} (h : obs x = some l) : x = some (stOf x,l) := by
 cases x with
 | none => cases h
 | some p => cases h; rfl
theorem of_isS {x : Option St} (h : isS x = true) : x = some (stO x) := by
 cases x with
 | none => cases h
 | some p => rfl
section
variable {P : Program} {ro : Option Nat} {E : Entry} {n : Nat}
theorem At.en {c : Code} {Q : Exit → Act → World → Prop} {st : St} (l : List Ed) (ks ρ : List Nat) (h : isS (Go.Ab.edNar l ks ρ st) = true) (h2 : At P ro E n c Q (stO (Go.Ab.edNar l ks ρ st))) : At P ro E n c Q st :=
 At.edNar l ks ρ (of_isS h) h2
end
end Go.Ab
