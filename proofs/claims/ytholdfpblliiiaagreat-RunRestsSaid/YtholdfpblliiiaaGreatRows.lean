/-
  No cell of these rows narrows 'for every input' (looked for: loops, veiled, ifaces, maps, wideKeys, modest, calm, conditions, laid).
  DERIVED. THE GIVEN ROWS OF THIS SEAT. 3 by the template 'for every input the law returns true; each argument reads behind the call as it read before'; 0 by the template 'total and deterministic' (their statements: YtholdfpblliiiaaGreatTotals.lean).
  GIVEN WITH THE SEED: the statements are not yours to turn. If you find one false, say at which input.
  Laid BY PROGRAM, IN A SANDBOX (cutbox-rows.mjs): the forced cells as the released guide's own fill.sh prints them over the translation f35ea2d20f124c74… (all of the seat's roots in one cut). By AI agents, Wed Nov 11 2026. No macro, syntax, notation, axiom, sorry.
-/
import Derived.Test.YtholdfpblliiiaaGreatChecked
import GoSem.Claim
import GoSem.ClaimJoined
import GoSem.ClaimMapViews
import Derived.JoinedTies
import Derived.KernelRfl
namespace Go.Proofs.YtholdfpblliiiaaGreat
/- THE CELL 'sum', in the pinned program and in every row, IS THE sha256 OF THE DUMP (.gsa) THAT YtholdfpblliiiaaGreatProg.lean LOADS. Nothing in Lean hashes anything: it is a label: what it is worth is what the hold of that sum in a sandbox is worth. -/
noncomputable def Tryz.pinned : Pinned := { name := "ytholdfpblliiiaagreat", sum := "f35ea2d20f124c74d1c3175341c31c0be7f17978dc91c2f8631ee41bf05b08bf", checked := Tryz.checked }
namespace Rows
def none {H : Type} : Left H := { results := [], args := [] }

/-- 'retracelaw20.CodePrograms': WHATEVER THE INPUT: true; the input reads as it did. -/
def codeProgramsSpec : ChangeSpec := { name := "codePrograms", fn := fun _ => fun
  | [d] => { results := [.lit (.bool true)], args := [d] }
  | _ => none }
def codeProgramsRow : OpenClaim := { program := "ytholdfpblliiiaagreat", sum := "f35ea2d20f124c74d1c3175341c31c0be7f17978dc91c2f8631ee41bf05b08bf", func := "retrace/retracelaw20.CodePrograms", spec := "codePrograms", unfollowed := true, recurses := true, apart := false }
def CodeProgramsSaid : Prop := codeProgramsRow.holds Tryz.pinned (OpenSpec.ofChange codeProgramsSpec)

/-- ITS FALSE NEIGHBOUR: 'it returns false'. Refute it at one input. -/
def codeProgramsWrong : ChangeSpec := { name := "codePrograms", fn := fun _ => fun
  | [d] => { results := [.lit (.bool false)], args := [d] }
  | _ => none }
def CodeProgramsWrongFalsely : Prop := codeProgramsRow.holds Tryz.pinned (OpenSpec.ofChange codeProgramsWrong)

/-- 'retracelaw24.RunRests': WHATEVER THE INPUT: true; the input reads as it did. -/
def runRestsSpec : ChangeSpec := { name := "runRests", fn := fun _ => fun
  | [d1, d2] => { results := [.lit (.bool true)], args := [d1, d2] }
  | _ => none }
def runRestsRow : OpenClaim := { program := "ytholdfpblliiiaagreat", sum := "f35ea2d20f124c74d1c3175341c31c0be7f17978dc91c2f8631ee41bf05b08bf", func := "retrace/retracelaw24.RunRests", spec := "runRests", recurses := true, apart := false }
def RunRestsSaid : Prop := runRestsRow.holds Tryz.pinned (OpenSpec.ofChange runRestsSpec)

/-- ITS FALSE NEIGHBOUR: 'it returns false'. Refute it at one input. -/
def runRestsWrong : ChangeSpec := { name := "runRests", fn := fun _ => fun
  | [d1, d2] => { results := [.lit (.bool false)], args := [d1, d2] }
  | _ => none }
def RunRestsWrongFalsely : Prop := runRestsRow.holds Tryz.pinned (OpenSpec.ofChange runRestsWrong)

/-- 'retracelaw24.RunSame': WHATEVER THE INPUT: true; the input reads as it did. -/
def runSameSpec : ChangeSpec := { name := "runSame", fn := fun _ => fun
  | [d1, d2] => { results := [.lit (.bool true)], args := [d1, d2] }
  | _ => none }
def runSameRow : OpenClaim := { program := "ytholdfpblliiiaagreat", sum := "f35ea2d20f124c74d1c3175341c31c0be7f17978dc91c2f8631ee41bf05b08bf", func := "retrace/retracelaw24.RunSame", spec := "runSame", recurses := true, apart := false }
def RunSameSaid : Prop := runSameRow.holds Tryz.pinned (OpenSpec.ofChange runSameSpec)

/-- ITS FALSE NEIGHBOUR: 'it returns false'. Refute it at one input. -/
def runSameWrong : ChangeSpec := { name := "runSame", fn := fun _ => fun
  | [d1, d2] => { results := [.lit (.bool false)], args := [d1, d2] }
  | _ => none }
def RunSameWrongFalsely : Prop := runSameRow.holds Tryz.pinned (OpenSpec.ofChange runSameWrong)

/- THE SECOND FORM. 'bulk': how many values and letters a reading holds, each counted each time it is reached (what is shared counts as often as it is met; a slice's spare places count too). A statement '..UptoSaid' is the law's where the arguments, and the package variables that the reading takes, are together of bulk at most 1048576: NARROWER than '..Said'. Prove '..Said' where nothing that the law and all that it calls make is longer than what came in: it says more and counts as full. Else prove '..UptoSaid'. A law counts once. -/
mutual
def uptoBulk {H : Type} : DataW H → Nat
  | .lit (.string bytes) => bytes.length + 1
  | .lit _ => 1
  | .nil => 1
  | .ptr d => uptoBulk d + 1
  | .slice elems spare => uptoBulkAll elems + uptoBulkAll spare + 1
  | .agg parts => uptoBulkAll parts + 1
  | .iface _ d => uptoBulk d + 1
  | .map entries => uptoBulkEntries entries + 1
  | .held _ => 1
def uptoBulkAll {H : Type} : List (DataW H) → Nat
  | [] => 0
  | d :: r => uptoBulk d + uptoBulkAll r
def uptoBulkEntries {H : Type} : List (Lit × DataW H) → Nat
  | [] => 0
  | x :: r => uptoBulkEntry x + uptoBulkEntries r
def uptoBulkEntry {H : Type} : Lit × DataW H → Nat
  | (.string bytes, d) => bytes.length + uptoBulk d + 1
  | (_, d) => uptoBulk d + 1
 end
def uptoSmall : (H : Type) → List (DataW H) → Bool := fun _ ds => decide (uptoBulkAll ds ≤ 1048576)
def OpenSpec.upto (s : _root_.Go.ChangeSpec) : _root_.Go.OpenSpec := { _root_.Go.OpenSpec.ofChange s with cond := some uptoSmall }

/-- 'retracelaw20.CodePrograms', WHERE WHAT IT READS IS OF BULK AT MOST 1048576: true; the input reads as it did. -/
def codeProgramsUptoRow : OpenClaim := { program := "ytholdfpblliiiaagreat", sum := "f35ea2d20f124c74d1c3175341c31c0be7f17978dc91c2f8631ee41bf05b08bf", func := "retrace/retracelaw20.CodePrograms", spec := "codePrograms", unfollowed := true, recurses := true, apart := false, narrowed := true }
def CodeProgramsUptoSaid : Prop := codeProgramsUptoRow.holds Tryz.pinned (OpenSpec.upto codeProgramsSpec)

/-- 'retracelaw24.RunRests', WHERE WHAT IT READS IS OF BULK AT MOST 1048576: true; the input reads as it did. -/
def runRestsUptoRow : OpenClaim := { program := "ytholdfpblliiiaagreat", sum := "f35ea2d20f124c74d1c3175341c31c0be7f17978dc91c2f8631ee41bf05b08bf", func := "retrace/retracelaw24.RunRests", spec := "runRests", recurses := true, apart := false, narrowed := true }
def RunRestsUptoSaid : Prop := runRestsUptoRow.holds Tryz.pinned (OpenSpec.upto runRestsSpec)

/-- 'retracelaw24.RunSame', WHERE WHAT IT READS IS OF BULK AT MOST 1048576: true; the input reads as it did. -/
def runSameUptoRow : OpenClaim := { program := "ytholdfpblliiiaagreat", sum := "f35ea2d20f124c74d1c3175341c31c0be7f17978dc91c2f8631ee41bf05b08bf", func := "retrace/retracelaw24.RunSame", spec := "runSame", recurses := true, apart := false, narrowed := true }
def RunSameUptoSaid : Prop := runSameUptoRow.holds Tryz.pinned (OpenSpec.upto runSameSpec)

end Rows
end Go.Proofs.YtholdfpblliiiaaGreat
