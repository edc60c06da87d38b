/-
  No cell of these rows narrows 'for every input' (looked for: loops, veiled, ifaces, maps, wideKeys, modest, calm, conditions, laid).
  DERIVED. THE GIVEN ROWS OF THIS SEAT. 4 by the template 'for every input the law returns true; each argument reads behind the call as it read before'; 0 by the template 'total and deterministic' (their statements: YtgihgmnmefbjbaaGreatTotals.lean).
  GIVEN WITH THE SEED: the statements are not yours to turn. If you find one false, say at which input.
  Laid BY PROGRAM, IN A SANDBOX (cutbox-rows.mjs): the forced cells as the released guide's own fill.sh prints them over the translation dae6fcc786e60863… (all of the seat's roots in one cut). By AI agents, Wed Nov 11 2026. No macro, syntax, notation, axiom, sorry.
-/
import Derived.Test.YtgihgmnmefbjbaaGreatChecked
import GoSem.Claim
import GoSem.ClaimJoined
import GoSem.ClaimMapViews
import Derived.JoinedTies
import Derived.KernelRfl
namespace Go.Proofs.YtgihgmnmefbjbaaGreat
/- THE CELL 'sum', in the pinned program and in every row, IS THE sha256 OF THE DUMP (.gsa) THAT YtgihgmnmefbjbaaGreatProg.lean LOADS. Nothing in Lean hashes anything: it is a label: what it is worth is what the hold of that sum in a sandbox is worth. -/
noncomputable def Tryz.pinned : Pinned := { name := "ytgihgmnmefbjbaagreat", sum := "dae6fcc786e6086300d3a54c2726c99fe07681526a5ec1e0b0e943d718547f6f", checked := Tryz.checked }
namespace Rows
def none {H : Type} : Left H := { results := [], args := [] }

/-- 'retracelaw22.ProcChecks': WHATEVER THE INPUT: true; the input reads as it did. -/
def procChecksSpec : ChangeSpec := { name := "procChecks", fn := fun _ => fun
  | [d1, d2] => { results := [.lit (.bool true)], args := [d1, d2] }
  | _ => none }
def procChecksRow : OpenClaim := { program := "ytgihgmnmefbjbaagreat", sum := "dae6fcc786e6086300d3a54c2726c99fe07681526a5ec1e0b0e943d718547f6f", func := "retrace/retracelaw22.ProcChecks", spec := "procChecks", unfollowed := true, recurses := true, apart := false }
def ProcChecksSaid : Prop := procChecksRow.holds Tryz.pinned (OpenSpec.ofChange procChecksSpec)

/-- ITS FALSE NEIGHBOUR: 'it returns false'. Refute it at one input. -/
def procChecksWrong : ChangeSpec := { name := "procChecks", fn := fun _ => fun
  | [d1, d2] => { results := [.lit (.bool false)], args := [d1, d2] }
  | _ => none }
def ProcChecksWrongFalsely : Prop := procChecksRow.holds Tryz.pinned (OpenSpec.ofChange procChecksWrong)

/-- 'retracelaw22.ProcNews': WHATEVER THE INPUT: true; the input reads as it did. -/
def procNewsSpec : ChangeSpec := { name := "procNews", fn := fun _ => fun
  | [d1, d2, d3, d4] => { results := [.lit (.bool true)], args := [d1, d2, d3, d4] }
  | _ => none }
def procNewsRow : OpenClaim := { program := "ytgihgmnmefbjbaagreat", sum := "dae6fcc786e6086300d3a54c2726c99fe07681526a5ec1e0b0e943d718547f6f", func := "retrace/retracelaw22.ProcNews", spec := "procNews", unfollowed := true, recurses := true, apart := false }
def ProcNewsSaid : Prop := procNewsRow.holds Tryz.pinned (OpenSpec.ofChange procNewsSpec)

/-- ITS FALSE NEIGHBOUR: 'it returns false'. Refute it at one input. -/
def procNewsWrong : ChangeSpec := { name := "procNews", fn := fun _ => fun
  | [d1, d2, d3, d4] => { results := [.lit (.bool false)], args := [d1, d2, d3, d4] }
  | _ => none }
def ProcNewsWrongFalsely : Prop := procNewsRow.holds Tryz.pinned (OpenSpec.ofChange procNewsWrong)

/-- 'retracelaw22.ProcSame': WHATEVER THE INPUT: true; the input reads as it did. -/
def procSameSpec : ChangeSpec := { name := "procSame", fn := fun _ => fun
  | [d1, d2] => { results := [.lit (.bool true)], args := [d1, d2] }
  | _ => none }
def procSameRow : OpenClaim := { program := "ytgihgmnmefbjbaagreat", sum := "dae6fcc786e6086300d3a54c2726c99fe07681526a5ec1e0b0e943d718547f6f", func := "retrace/retracelaw22.ProcSame", spec := "procSame", unfollowed := true, recurses := true, apart := false }
def ProcSameSaid : Prop := procSameRow.holds Tryz.pinned (OpenSpec.ofChange procSameSpec)

/-- ITS FALSE NEIGHBOUR: 'it returns false'. Refute it at one input. -/
def procSameWrong : ChangeSpec := { name := "procSame", fn := fun _ => fun
  | [d1, d2] => { results := [.lit (.bool false)], args := [d1, d2] }
  | _ => none }
def ProcSameWrongFalsely : Prop := procSameRow.holds Tryz.pinned (OpenSpec.ofChange procSameWrong)

/-- 'retracelaw22.ProcGoes': WHATEVER THE INPUT: true; the input reads as it did. -/
def procGoesSpec : ChangeSpec := { name := "procGoes", fn := fun _ => fun
  | [d1, d2, d3] => { results := [.lit (.bool true)], args := [d1, d2, d3] }
  | _ => none }
def procGoesRow : OpenClaim := { program := "ytgihgmnmefbjbaagreat", sum := "dae6fcc786e6086300d3a54c2726c99fe07681526a5ec1e0b0e943d718547f6f", func := "retrace/retracelaw22.ProcGoes", spec := "procGoes", unfollowed := true, recurses := true, apart := false }
def ProcGoesSaid : Prop := procGoesRow.holds Tryz.pinned (OpenSpec.ofChange procGoesSpec)

/-- ITS FALSE NEIGHBOUR: 'it returns false'. Refute it at one input. -/
def procGoesWrong : ChangeSpec := { name := "procGoes", fn := fun _ => fun
  | [d1, d2, d3] => { results := [.lit (.bool false)], args := [d1, d2, d3] }
  | _ => none }
def ProcGoesWrongFalsely : Prop := procGoesRow.holds Tryz.pinned (OpenSpec.ofChange procGoesWrong)

/- THE SECOND FORM. 'bulk': how many values and letters a reading holds, each counted each time it is reached (what is shared counts as often as it is met; a slice's spare places count too). A statement '..UptoSaid' is the law's where the arguments, and the package variables that the reading takes, are together of bulk at most 1048576: NARROWER than '..Said'. Prove '..Said' where nothing that the law and all that it calls make is longer than what came in: it says more and counts as full. Else prove '..UptoSaid'. A law counts once. -/
mutual
def uptoBulk {H : Type} : DataW H → Nat
  | .lit (.string bytes) => bytes.length + 1
  | .lit _ => 1
  | .nil => 1
  | .ptr d => uptoBulk d + 1
  | .slice elems spare => uptoBulkAll elems + uptoBulkAll spare + 1
  | .agg parts => uptoBulkAll parts + 1
  | .iface _ d => uptoBulk d + 1
  | .map entries => uptoBulkEntries entries + 1
  | .held _ => 1
def uptoBulkAll {H : Type} : List (DataW H) → Nat
  | [] => 0
  | d :: r => uptoBulk d + uptoBulkAll r
def uptoBulkEntries {H : Type} : List (Lit × DataW H) → Nat
  | [] => 0
  | x :: r => uptoBulkEntry x + uptoBulkEntries r
def uptoBulkEntry {H : Type} : Lit × DataW H → Nat
  | (.string bytes, d) => bytes.length + uptoBulk d + 1
  | (_, d) => uptoBulk d + 1
 end
def uptoSmall : (H : Type) → List (DataW H) → Bool := fun _ ds => decide (uptoBulkAll ds ≤ 1048576)
def OpenSpec.upto (s : _root_.Go.ChangeSpec) : _root_.Go.OpenSpec := { _root_.Go.OpenSpec.ofChange s with cond := some uptoSmall }

/-- 'retracelaw22.ProcChecks', WHERE WHAT IT READS IS OF BULK AT MOST 1048576: true; the input reads as it did. -/
def procChecksUptoRow : OpenClaim := { program := "ytgihgmnmefbjbaagreat", sum := "dae6fcc786e6086300d3a54c2726c99fe07681526a5ec1e0b0e943d718547f6f", func := "retrace/retracelaw22.ProcChecks", spec := "procChecks", unfollowed := true, recurses := true, apart := false, narrowed := true }
def ProcChecksUptoSaid : Prop := procChecksUptoRow.holds Tryz.pinned (OpenSpec.upto procChecksSpec)

/-- 'retracelaw22.ProcNews', WHERE WHAT IT READS IS OF BULK AT MOST 1048576: true; the input reads as it did. -/
def procNewsUptoRow : OpenClaim := { program := "ytgihgmnmefbjbaagreat", sum := "dae6fcc786e6086300d3a54c2726c99fe07681526a5ec1e0b0e943d718547f6f", func := "retrace/retracelaw22.ProcNews", spec := "procNews", unfollowed := true, recurses := true, apart := false, narrowed := true }
def ProcNewsUptoSaid : Prop := procNewsUptoRow.holds Tryz.pinned (OpenSpec.upto procNewsSpec)

/-- 'retracelaw22.ProcSame', WHERE WHAT IT READS IS OF BULK AT MOST 1048576: true; the input reads as it did. -/
def procSameUptoRow : OpenClaim := { program := "ytgihgmnmefbjbaagreat", sum := "dae6fcc786e6086300d3a54c2726c99fe07681526a5ec1e0b0e943d718547f6f", func := "retrace/retracelaw22.ProcSame", spec := "procSame", unfollowed := true, recurses := true, apart := false, narrowed := true }
def ProcSameUptoSaid : Prop := procSameUptoRow.holds Tryz.pinned (OpenSpec.upto procSameSpec)

/-- 'retracelaw22.ProcGoes', WHERE WHAT IT READS IS OF BULK AT MOST 1048576: true; the input reads as it did. -/
def procGoesUptoRow : OpenClaim := { program := "ytgihgmnmefbjbaagreat", sum := "dae6fcc786e6086300d3a54c2726c99fe07681526a5ec1e0b0e943d718547f6f", func := "retrace/retracelaw22.ProcGoes", spec := "procGoes", unfollowed := true, recurses := true, apart := false, narrowed := true }
def ProcGoesUptoSaid : Prop := procGoesUptoRow.holds Tryz.pinned (OpenSpec.upto procGoesSpec)

end Rows
end Go.Proofs.YtgihgmnmefbjbaaGreat
