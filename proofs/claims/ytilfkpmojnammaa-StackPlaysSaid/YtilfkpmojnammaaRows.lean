/-
  No cell of these rows narrows 'for every input' (looked for: loops, veiled, ifaces, maps, wideKeys, modest, calm, conditions, laid).
  DERIVED. THE GIVEN ROWS OF THIS SEAT. 9 by the template 'for every input the law returns true; each argument reads behind the call as it read before'; 0 by the template 'total and deterministic' (their statements: YtilfkpmojnammaaTotals.lean).
  GIVEN WITH THE SEED: the statements are not yours to turn. If you find one false, say at which input.
  Laid BY PROGRAM, IN A SANDBOX (cutbox-rows.mjs): the forced cells as the released guide's own fill.sh prints them over the translation 449dbfef31941a51… (all of the seat's roots in one cut). By AI agents, Wed Nov 11 2026. No macro, syntax, notation, axiom, sorry.
-/
import Derived.Test.YtilfkpmojnammaaChecked
import GoSem.Claim
import GoSem.ClaimJoined
import GoSem.ClaimMapViews
import Derived.JoinedTies
import Derived.KernelRfl
namespace Go.Proofs.Ytilfkpmojnammaa
/- THE CELL 'sum', in the pinned program and in every row, IS THE sha256 OF THE DUMP (.gsa) THAT YtilfkpmojnammaaProg.lean LOADS. Nothing in Lean hashes anything: it is a label: what it is worth is what the hold of that sum in a sandbox is worth. -/
noncomputable def Try.pinned : Pinned := { name := "ytilfkpmojnammaa", sum := "449dbfef31941a51349b243da34062cc65fe7a5c4d063a9e969124078a68200b", checked := Try.checked }
namespace Rows
def none {H : Type} : Left H := { results := [], args := [] }

/-- 'retracelaw15.ArithTells': WHATEVER THE INPUT: true; the input reads as it did. -/
def arithTellsSpec : ChangeSpec := { name := "arithTells", fn := fun _ => fun
  | [d1, d2, d3] => { results := [.lit (.bool true)], args := [d1, d2, d3] }
  | _ => none }
def arithTellsRow : OpenClaim := { program := "ytilfkpmojnammaa", sum := "449dbfef31941a51349b243da34062cc65fe7a5c4d063a9e969124078a68200b", func := "retrace/retracelaw15.ArithTells", spec := "arithTells", apart := false }
def ArithTellsSaid : Prop := arithTellsRow.holds Try.pinned (OpenSpec.ofChange arithTellsSpec)

/-- ITS FALSE NEIGHBOUR: 'it returns false'. Refute it at one input. -/
def arithTellsWrong : ChangeSpec := { name := "arithTells", fn := fun _ => fun
  | [d1, d2, d3] => { results := [.lit (.bool false)], args := [d1, d2, d3] }
  | _ => none }
def ArithTellsWrongFalsely : Prop := arithTellsRow.holds Try.pinned (OpenSpec.ofChange arithTellsWrong)

/-- 'retracelaw15.ArithDivides': WHATEVER THE INPUT: true; the input reads as it did. -/
def arithDividesSpec : ChangeSpec := { name := "arithDivides", fn := fun _ => fun
  | [d1, d2] => { results := [.lit (.bool true)], args := [d1, d2] }
  | _ => none }
def arithDividesRow : OpenClaim := { program := "ytilfkpmojnammaa", sum := "449dbfef31941a51349b243da34062cc65fe7a5c4d063a9e969124078a68200b", func := "retrace/retracelaw15.ArithDivides", spec := "arithDivides", apart := false }
def ArithDividesSaid : Prop := arithDividesRow.holds Try.pinned (OpenSpec.ofChange arithDividesSpec)

/-- ITS FALSE NEIGHBOUR: 'it returns false'. Refute it at one input. -/
def arithDividesWrong : ChangeSpec := { name := "arithDivides", fn := fun _ => fun
  | [d1, d2] => { results := [.lit (.bool false)], args := [d1, d2] }
  | _ => none }
def ArithDividesWrongFalsely : Prop := arithDividesRow.holds Try.pinned (OpenSpec.ofChange arithDividesWrong)

/-- 'retracelaw15.ArithTurns': WHATEVER THE INPUT: true; the input reads as it did. -/
def arithTurnsSpec : ChangeSpec := { name := "arithTurns", fn := fun _ => fun
  | [d1, d2] => { results := [.lit (.bool true)], args := [d1, d2] }
  | _ => none }
def arithTurnsRow : OpenClaim := { program := "ytilfkpmojnammaa", sum := "449dbfef31941a51349b243da34062cc65fe7a5c4d063a9e969124078a68200b", func := "retrace/retracelaw15.ArithTurns", spec := "arithTurns", apart := false }
def ArithTurnsSaid : Prop := arithTurnsRow.holds Try.pinned (OpenSpec.ofChange arithTurnsSpec)

/-- ITS FALSE NEIGHBOUR: 'it returns false'. Refute it at one input. -/
def arithTurnsWrong : ChangeSpec := { name := "arithTurns", fn := fun _ => fun
  | [d1, d2] => { results := [.lit (.bool false)], args := [d1, d2] }
  | _ => none }
def ArithTurnsWrongFalsely : Prop := arithTurnsRow.holds Try.pinned (OpenSpec.ofChange arithTurnsWrong)

/-- 'retracelaw17.PatchPlays': WHATEVER THE INPUT: true; the input reads as it did. -/
def patchPlaysSpec : ChangeSpec := { name := "patchPlays", fn := fun _ => fun
  | [d] => { results := [.lit (.bool true)], args := [d] }
  | _ => none }
def patchPlaysRow : OpenClaim := { program := "ytilfkpmojnammaa", sum := "449dbfef31941a51349b243da34062cc65fe7a5c4d063a9e969124078a68200b", func := "retrace/retracelaw17.PatchPlays", spec := "patchPlays", apart := false }
def PatchPlaysSaid : Prop := patchPlaysRow.holds Try.pinned (OpenSpec.ofChange patchPlaysSpec)

/-- ITS FALSE NEIGHBOUR: 'it returns false'. Refute it at one input. -/
def patchPlaysWrong : ChangeSpec := { name := "patchPlays", fn := fun _ => fun
  | [d] => { results := [.lit (.bool false)], args := [d] }
  | _ => none }
def PatchPlaysWrongFalsely : Prop := patchPlaysRow.holds Try.pinned (OpenSpec.ofChange patchPlaysWrong)

/-- 'retracelaw17.PatchAims': WHATEVER THE INPUT: true; the input reads as it did. -/
def patchAimsSpec : ChangeSpec := { name := "patchAims", fn := fun _ => fun
  | [d1, d2] => { results := [.lit (.bool true)], args := [d1, d2] }
  | _ => none }
def patchAimsRow : OpenClaim := { program := "ytilfkpmojnammaa", sum := "449dbfef31941a51349b243da34062cc65fe7a5c4d063a9e969124078a68200b", func := "retrace/retracelaw17.PatchAims", spec := "patchAims", apart := false }
def PatchAimsSaid : Prop := patchAimsRow.holds Try.pinned (OpenSpec.ofChange patchAimsSpec)

/-- ITS FALSE NEIGHBOUR: 'it returns false'. Refute it at one input. -/
def patchAimsWrong : ChangeSpec := { name := "patchAims", fn := fun _ => fun
  | [d1, d2] => { results := [.lit (.bool false)], args := [d1, d2] }
  | _ => none }
def PatchAimsWrongFalsely : Prop := patchAimsRow.holds Try.pinned (OpenSpec.ofChange patchAimsWrong)

/-- 'retracelaw17.PatchMany': WHATEVER THE INPUT: true; the input reads as it did. -/
def patchManySpec : ChangeSpec := { name := "patchMany", fn := fun _ => fun
  | [d1, d2] => { results := [.lit (.bool true)], args := [d1, d2] }
  | _ => none }
def patchManyRow : OpenClaim := { program := "ytilfkpmojnammaa", sum := "449dbfef31941a51349b243da34062cc65fe7a5c4d063a9e969124078a68200b", func := "retrace/retracelaw17.PatchMany", spec := "patchMany", apart := false }
def PatchManySaid : Prop := patchManyRow.holds Try.pinned (OpenSpec.ofChange patchManySpec)

/-- ITS FALSE NEIGHBOUR: 'it returns false'. Refute it at one input. -/
def patchManyWrong : ChangeSpec := { name := "patchMany", fn := fun _ => fun
  | [d1, d2] => { results := [.lit (.bool false)], args := [d1, d2] }
  | _ => none }
def PatchManyWrongFalsely : Prop := patchManyRow.holds Try.pinned (OpenSpec.ofChange patchManyWrong)

/-- 'retracelaw23.StackPlays': WHATEVER THE INPUT: true; the input reads as it did. -/
def stackPlaysSpec : ChangeSpec := { name := "stackPlays", fn := fun _ => fun
  | [d1, d2] => { results := [.lit (.bool true)], args := [d1, d2] }
  | _ => none }
def stackPlaysRow : OpenClaim := { program := "ytilfkpmojnammaa", sum := "449dbfef31941a51349b243da34062cc65fe7a5c4d063a9e969124078a68200b", func := "retrace/retracelaw23.StackPlays", spec := "stackPlays", apart := false }
def StackPlaysSaid : Prop := stackPlaysRow.holds Try.pinned (OpenSpec.ofChange stackPlaysSpec)

/-- ITS FALSE NEIGHBOUR: 'it returns false'. Refute it at one input. -/
def stackPlaysWrong : ChangeSpec := { name := "stackPlays", fn := fun _ => fun
  | [d1, d2] => { results := [.lit (.bool false)], args := [d1, d2] }
  | _ => none }
def StackPlaysWrongFalsely : Prop := stackPlaysRow.holds Try.pinned (OpenSpec.ofChange stackPlaysWrong)

/-- 'retracelaw23.StackOrder': WHATEVER THE INPUT: true; the input reads as it did. -/
def stackOrderSpec : ChangeSpec := { name := "stackOrder", fn := fun _ => fun
  | [d1, d2] => { results := [.lit (.bool true)], args := [d1, d2] }
  | _ => none }
def stackOrderRow : OpenClaim := { program := "ytilfkpmojnammaa", sum := "449dbfef31941a51349b243da34062cc65fe7a5c4d063a9e969124078a68200b", func := "retrace/retracelaw23.StackOrder", spec := "stackOrder", apart := false }
def StackOrderSaid : Prop := stackOrderRow.holds Try.pinned (OpenSpec.ofChange stackOrderSpec)

/-- ITS FALSE NEIGHBOUR: 'it returns false'. Refute it at one input. -/
def stackOrderWrong : ChangeSpec := { name := "stackOrder", fn := fun _ => fun
  | [d1, d2] => { results := [.lit (.bool false)], args := [d1, d2] }
  | _ => none }
def StackOrderWrongFalsely : Prop := stackOrderRow.holds Try.pinned (OpenSpec.ofChange stackOrderWrong)

/-- 'retracelaw23.StackNone': WHATEVER THE INPUT: true; the input reads as it did. -/
def stackNoneSpec : ChangeSpec := { name := "stackNone", fn := fun _ => fun
  | [d1, d2] => { results := [.lit (.bool true)], args := [d1, d2] }
  | _ => none }
def stackNoneRow : OpenClaim := { program := "ytilfkpmojnammaa", sum := "449dbfef31941a51349b243da34062cc65fe7a5c4d063a9e969124078a68200b", func := "retrace/retracelaw23.StackNone", spec := "stackNone", apart := false }
def StackNoneSaid : Prop := stackNoneRow.holds Try.pinned (OpenSpec.ofChange stackNoneSpec)

/-- ITS FALSE NEIGHBOUR: 'it returns false'. Refute it at one input. -/
def stackNoneWrong : ChangeSpec := { name := "stackNone", fn := fun _ => fun
  | [d1, d2] => { results := [.lit (.bool false)], args := [d1, d2] }
  | _ => none }
def StackNoneWrongFalsely : Prop := stackNoneRow.holds Try.pinned (OpenSpec.ofChange stackNoneWrong)

/- THE SECOND FORM. 'bulk': how many values and letters a reading holds, each counted each time it is reached (what is shared counts as often as it is met; a slice's spare places count too). A statement '..UptoSaid' is the law's where the arguments, and the package variables that the reading takes, are together of bulk at most 1048576: NARROWER than '..Said'. Prove '..Said' where nothing that the law and all that it calls make is longer than what came in: it says more and counts as full. Else prove '..UptoSaid'. A law counts once. -/
mutual
def uptoBulk {H : Type} : DataW H → Nat
  | .lit (.string bytes) => bytes.length + 1
  | .lit _ => 1
  | .nil => 1
  | .ptr d => uptoBulk d + 1
  | .slice elems spare => uptoBulkAll elems + uptoBulkAll spare + 1
  | .agg parts => uptoBulkAll parts + 1
  | .iface _ d => uptoBulk d + 1
  | .map entries => uptoBulkEntries entries + 1
  | .held _ => 1
def uptoBulkAll {H : Type} : List (DataW H) → Nat
  | [] => 0
  | d :: r => uptoBulk d + uptoBulkAll r
def uptoBulkEntries {H : Type} : List (Lit × DataW H) → Nat
  | [] => 0
  | x :: r => uptoBulkEntry x + uptoBulkEntries r
def uptoBulkEntry {H : Type} : Lit × DataW H → Nat
  | (.string bytes, d) => bytes.length + uptoBulk d + 1
  | (_, d) => uptoBulk d + 1
 end
def uptoSmall : (H : Type) → List (DataW H) → Bool := fun _ ds => decide (uptoBulkAll ds ≤ 1048576)
def OpenSpec.upto (s : _root_.Go.ChangeSpec) : _root_.Go.OpenSpec := { _root_.Go.OpenSpec.ofChange s with cond := some uptoSmall }

/-- 'retracelaw15.ArithTells', WHERE WHAT IT READS IS OF BULK AT MOST 1048576: true; the input reads as it did. -/
def arithTellsUptoRow : OpenClaim := { program := "ytilfkpmojnammaa", sum := "449dbfef31941a51349b243da34062cc65fe7a5c4d063a9e969124078a68200b", func := "retrace/retracelaw15.ArithTells", spec := "arithTells", apart := false, narrowed := true }
def ArithTellsUptoSaid : Prop := arithTellsUptoRow.holds Try.pinned (OpenSpec.upto arithTellsSpec)

/-- 'retracelaw15.ArithDivides', WHERE WHAT IT READS IS OF BULK AT MOST 1048576: true; the input reads as it did. -/
def arithDividesUptoRow : OpenClaim := { program := "ytilfkpmojnammaa", sum := "449dbfef31941a51349b243da34062cc65fe7a5c4d063a9e969124078a68200b", func := "retrace/retracelaw15.ArithDivides", spec := "arithDivides", apart := false, narrowed := true }
def ArithDividesUptoSaid : Prop := arithDividesUptoRow.holds Try.pinned (OpenSpec.upto arithDividesSpec)

/-- 'retracelaw15.ArithTurns', WHERE WHAT IT READS IS OF BULK AT MOST 1048576: true; the input reads as it did. -/
def arithTurnsUptoRow : OpenClaim := { program := "ytilfkpmojnammaa", sum := "449dbfef31941a51349b243da34062cc65fe7a5c4d063a9e969124078a68200b", func := "retrace/retracelaw15.ArithTurns", spec := "arithTurns", apart := false, narrowed := true }
def ArithTurnsUptoSaid : Prop := arithTurnsUptoRow.holds Try.pinned (OpenSpec.upto arithTurnsSpec)

/-- 'retracelaw17.PatchPlays', WHERE WHAT IT READS IS OF BULK AT MOST 1048576: true; the input reads as it did. -/
def patchPlaysUptoRow : OpenClaim := { program := "ytilfkpmojnammaa", sum := "449dbfef31941a51349b243da34062cc65fe7a5c4d063a9e969124078a68200b", func := "retrace/retracelaw17.PatchPlays", spec := "patchPlays", apart := false, narrowed := true }
def PatchPlaysUptoSaid : Prop := patchPlaysUptoRow.holds Try.pinned (OpenSpec.upto patchPlaysSpec)

/-- 'retracelaw17.PatchAims', WHERE WHAT IT READS IS OF BULK AT MOST 1048576: true; the input reads as it did. -/
def patchAimsUptoRow : OpenClaim := { program := "ytilfkpmojnammaa", sum := "449dbfef31941a51349b243da34062cc65fe7a5c4d063a9e969124078a68200b", func := "retrace/retracelaw17.PatchAims", spec := "patchAims", apart := false, narrowed := true }
def PatchAimsUptoSaid : Prop := patchAimsUptoRow.holds Try.pinned (OpenSpec.upto patchAimsSpec)

/-- 'retracelaw17.PatchMany', WHERE WHAT IT READS IS OF BULK AT MOST 1048576: true; the input reads as it did. -/
def patchManyUptoRow : OpenClaim := { program := "ytilfkpmojnammaa", sum := "449dbfef31941a51349b243da34062cc65fe7a5c4d063a9e969124078a68200b", func := "retrace/retracelaw17.PatchMany", spec := "patchMany", apart := false, narrowed := true }
def PatchManyUptoSaid : Prop := patchManyUptoRow.holds Try.pinned (OpenSpec.upto patchManySpec)

/-- 'retracelaw23.StackPlays', WHERE WHAT IT READS IS OF BULK AT MOST 1048576: true; the input reads as it did. -/
def stackPlaysUptoRow : OpenClaim := { program := "ytilfkpmojnammaa", sum := "449dbfef31941a51349b243da34062cc65fe7a5c4d063a9e969124078a68200b", func := "retrace/retracelaw23.StackPlays", spec := "stackPlays", apart := false, narrowed := true }
def StackPlaysUptoSaid : Prop := stackPlaysUptoRow.holds Try.pinned (OpenSpec.upto stackPlaysSpec)

/-- 'retracelaw23.StackOrder', WHERE WHAT IT READS IS OF BULK AT MOST 1048576: true; the input reads as it did. -/
def stackOrderUptoRow : OpenClaim := { program := "ytilfkpmojnammaa", sum := "449dbfef31941a51349b243da34062cc65fe7a5c4d063a9e969124078a68200b", func := "retrace/retracelaw23.StackOrder", spec := "stackOrder", apart := false, narrowed := true }
def StackOrderUptoSaid : Prop := stackOrderUptoRow.holds Try.pinned (OpenSpec.upto stackOrderSpec)

/-- 'retracelaw23.StackNone', WHERE WHAT IT READS IS OF BULK AT MOST 1048576: true; the input reads as it did. -/
def stackNoneUptoRow : OpenClaim := { program := "ytilfkpmojnammaa", sum := "449dbfef31941a51349b243da34062cc65fe7a5c4d063a9e969124078a68200b", func := "retrace/retracelaw23.StackNone", spec := "stackNone", apart := false, narrowed := true }
def StackNoneUptoSaid : Prop := stackNoneUptoRow.holds Try.pinned (OpenSpec.upto stackNoneSpec)

end Rows
end Go.Proofs.Ytilfkpmojnammaa
