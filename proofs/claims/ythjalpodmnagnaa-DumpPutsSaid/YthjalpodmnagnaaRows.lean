/-
  No cell of these rows narrows 'for every input' (looked for: loops, veiled, ifaces, maps, wideKeys, modest, calm, conditions, laid).
  DERIVED. THE GIVEN ROWS OF THIS SEAT. 8 by the template 'for every input the law returns true; each argument reads behind the call as it read before'; 0 by the template 'total and deterministic' (their statements: YthjalpodmnagnaaTotals.lean).
  GIVEN WITH THE SEED: the statements are not yours to turn. If you find one false, say at which input.
  Laid BY PROGRAM, IN A SANDBOX (cutbox-rows.mjs): the forced cells as the released guide's own fill.sh prints them over the translation 6540b6418c36cc28… (all of the seat's roots in one cut). By AI agents, Wed Nov 11 2026. No macro, syntax, notation, axiom, sorry.
-/
import Derived.Test.YthjalpodmnagnaaChecked
import GoSem.Claim
import GoSem.ClaimJoined
import GoSem.ClaimMapViews
import Derived.JoinedTies
import Derived.KernelRfl
namespace Go.Proofs.Ythjalpodmnagnaa
/- THE CELL 'sum', in the pinned program and in every row, IS THE sha256 OF THE DUMP (.gsa) THAT YthjalpodmnagnaaProg.lean LOADS. Nothing in Lean hashes anything: it is a label: what it is worth is what the hold of that sum in a sandbox is worth. -/
noncomputable def Try.pinned : Pinned := { name := "ythjalpodmnagnaa", sum := "6540b6418c36cc28051497dfae7a0dce4eb48c3b2bd733f0f7281c0794023ad3", checked := Try.checked }
namespace Rows
def none {H : Type} : Left H := { results := [], args := [] }

/-- 'retracelaw30.DumpPuts': WHATEVER THE INPUT: true; the input reads as it did. -/
def dumpPutsSpec : ChangeSpec := { name := "dumpPuts", fn := fun _ => fun
  | [d] => { results := [.lit (.bool true)], args := [d] }
  | _ => none }
def dumpPutsRow : OpenClaim := { program := "ythjalpodmnagnaa", sum := "6540b6418c36cc28051497dfae7a0dce4eb48c3b2bd733f0f7281c0794023ad3", func := "retrace/retracelaw30.DumpPuts", spec := "dumpPuts", unfollowed := true, recurses := true, apart := false }
def DumpPutsSaid : Prop := dumpPutsRow.holds Try.pinned (OpenSpec.ofChange dumpPutsSpec)

/-- ITS FALSE NEIGHBOUR: 'it returns false'. Refute it at one input. -/
def dumpPutsWrong : ChangeSpec := { name := "dumpPuts", fn := fun _ => fun
  | [d] => { results := [.lit (.bool false)], args := [d] }
  | _ => none }
def DumpPutsWrongFalsely : Prop := dumpPutsRow.holds Try.pinned (OpenSpec.ofChange dumpPutsWrong)

/-- 'retracelaw30.DumpGets': WHATEVER THE INPUT: true; the input reads as it did. -/
def dumpGetsSpec : ChangeSpec := { name := "dumpGets", fn := fun _ => fun
  | [d] => { results := [.lit (.bool true)], args := [d] }
  | _ => none }
def dumpGetsRow : OpenClaim := { program := "ythjalpodmnagnaa", sum := "6540b6418c36cc28051497dfae7a0dce4eb48c3b2bd733f0f7281c0794023ad3", func := "retrace/retracelaw30.DumpGets", spec := "dumpGets", unfollowed := true, recurses := true, apart := false }
def DumpGetsSaid : Prop := dumpGetsRow.holds Try.pinned (OpenSpec.ofChange dumpGetsSpec)

/-- ITS FALSE NEIGHBOUR: 'it returns false'. Refute it at one input. -/
def dumpGetsWrong : ChangeSpec := { name := "dumpGets", fn := fun _ => fun
  | [d] => { results := [.lit (.bool false)], args := [d] }
  | _ => none }
def DumpGetsWrongFalsely : Prop := dumpGetsRow.holds Try.pinned (OpenSpec.ofChange dumpGetsWrong)

/-- 'retracelaw30.DumpReads': WHATEVER THE INPUT: true; the input reads as it did. -/
def dumpReadsSpec : ChangeSpec := { name := "dumpReads", fn := fun _ => fun
  | [d1, d2] => { results := [.lit (.bool true)], args := [d1, d2] }
  | _ => none }
def dumpReadsRow : OpenClaim := { program := "ythjalpodmnagnaa", sum := "6540b6418c36cc28051497dfae7a0dce4eb48c3b2bd733f0f7281c0794023ad3", func := "retrace/retracelaw30.DumpReads", spec := "dumpReads", unfollowed := true, recurses := true, apart := false }
def DumpReadsSaid : Prop := dumpReadsRow.holds Try.pinned (OpenSpec.ofChange dumpReadsSpec)

/-- ITS FALSE NEIGHBOUR: 'it returns false'. Refute it at one input. -/
def dumpReadsWrong : ChangeSpec := { name := "dumpReads", fn := fun _ => fun
  | [d1, d2] => { results := [.lit (.bool false)], args := [d1, d2] }
  | _ => none }
def DumpReadsWrongFalsely : Prop := dumpReadsRow.holds Try.pinned (OpenSpec.ofChange dumpReadsWrong)

/-- 'retracelaw31.EventChecks': WHATEVER THE INPUT: true; the input reads as it did. -/
def eventChecksSpec : ChangeSpec := { name := "eventChecks", fn := fun _ => fun
  | [d1, d2] => { results := [.lit (.bool true)], args := [d1, d2] }
  | _ => none }
def eventChecksRow : OpenClaim := { program := "ythjalpodmnagnaa", sum := "6540b6418c36cc28051497dfae7a0dce4eb48c3b2bd733f0f7281c0794023ad3", func := "retrace/retracelaw31.EventChecks", spec := "eventChecks", unfollowed := true, recurses := true, apart := false }
def EventChecksSaid : Prop := eventChecksRow.holds Try.pinned (OpenSpec.ofChange eventChecksSpec)

/-- ITS FALSE NEIGHBOUR: 'it returns false'. Refute it at one input. -/
def eventChecksWrong : ChangeSpec := { name := "eventChecks", fn := fun _ => fun
  | [d1, d2] => { results := [.lit (.bool false)], args := [d1, d2] }
  | _ => none }
def EventChecksWrongFalsely : Prop := eventChecksRow.holds Try.pinned (OpenSpec.ofChange eventChecksWrong)

/-- 'retracelaw31.EventPlaces': WHATEVER THE INPUT: true; the input reads as it did. -/
def eventPlacesSpec : ChangeSpec := { name := "eventPlaces", fn := fun _ => fun
  | [d1, d2] => { results := [.lit (.bool true)], args := [d1, d2] }
  | _ => none }
def eventPlacesRow : OpenClaim := { program := "ythjalpodmnagnaa", sum := "6540b6418c36cc28051497dfae7a0dce4eb48c3b2bd733f0f7281c0794023ad3", func := "retrace/retracelaw31.EventPlaces", spec := "eventPlaces", unfollowed := true, recurses := true, apart := false }
def EventPlacesSaid : Prop := eventPlacesRow.holds Try.pinned (OpenSpec.ofChange eventPlacesSpec)

/-- ITS FALSE NEIGHBOUR: 'it returns false'. Refute it at one input. -/
def eventPlacesWrong : ChangeSpec := { name := "eventPlaces", fn := fun _ => fun
  | [d1, d2] => { results := [.lit (.bool false)], args := [d1, d2] }
  | _ => none }
def EventPlacesWrongFalsely : Prop := eventPlacesRow.holds Try.pinned (OpenSpec.ofChange eventPlacesWrong)

/-- 'retracelaw31.EventGets': WHATEVER THE INPUT: true; the input reads as it did. -/
def eventGetsSpec : ChangeSpec := { name := "eventGets", fn := fun _ => fun
  | [d] => { results := [.lit (.bool true)], args := [d] }
  | _ => none }
def eventGetsRow : OpenClaim := { program := "ythjalpodmnagnaa", sum := "6540b6418c36cc28051497dfae7a0dce4eb48c3b2bd733f0f7281c0794023ad3", func := "retrace/retracelaw31.EventGets", spec := "eventGets", unfollowed := true, recurses := true, apart := false }
def EventGetsSaid : Prop := eventGetsRow.holds Try.pinned (OpenSpec.ofChange eventGetsSpec)

/-- ITS FALSE NEIGHBOUR: 'it returns false'. Refute it at one input. -/
def eventGetsWrong : ChangeSpec := { name := "eventGets", fn := fun _ => fun
  | [d] => { results := [.lit (.bool false)], args := [d] }
  | _ => none }
def EventGetsWrongFalsely : Prop := eventGetsRow.holds Try.pinned (OpenSpec.ofChange eventGetsWrong)

/-- 'retracelaw31.EventBack': WHATEVER THE INPUT: true; the input reads as it did. -/
def eventBackSpec : ChangeSpec := { name := "eventBack", fn := fun _ => fun
  | [d] => { results := [.lit (.bool true)], args := [d] }
  | _ => none }
def eventBackRow : OpenClaim := { program := "ythjalpodmnagnaa", sum := "6540b6418c36cc28051497dfae7a0dce4eb48c3b2bd733f0f7281c0794023ad3", func := "retrace/retracelaw31.EventBack", spec := "eventBack", unfollowed := true, recurses := true, apart := false }
def EventBackSaid : Prop := eventBackRow.holds Try.pinned (OpenSpec.ofChange eventBackSpec)

/-- ITS FALSE NEIGHBOUR: 'it returns false'. Refute it at one input. -/
def eventBackWrong : ChangeSpec := { name := "eventBack", fn := fun _ => fun
  | [d] => { results := [.lit (.bool false)], args := [d] }
  | _ => none }
def EventBackWrongFalsely : Prop := eventBackRow.holds Try.pinned (OpenSpec.ofChange eventBackWrong)

/-- 'retracelaw31.EventGoes': WHATEVER THE INPUT: true; the input reads as it did. -/
def eventGoesSpec : ChangeSpec := { name := "eventGoes", fn := fun _ => fun
  | [d1, d2] => { results := [.lit (.bool true)], args := [d1, d2] }
  | _ => none }
def eventGoesRow : OpenClaim := { program := "ythjalpodmnagnaa", sum := "6540b6418c36cc28051497dfae7a0dce4eb48c3b2bd733f0f7281c0794023ad3", func := "retrace/retracelaw31.EventGoes", spec := "eventGoes", unfollowed := true, recurses := true, apart := false }
def EventGoesSaid : Prop := eventGoesRow.holds Try.pinned (OpenSpec.ofChange eventGoesSpec)

/-- ITS FALSE NEIGHBOUR: 'it returns false'. Refute it at one input. -/
def eventGoesWrong : ChangeSpec := { name := "eventGoes", fn := fun _ => fun
  | [d1, d2] => { results := [.lit (.bool false)], args := [d1, d2] }
  | _ => none }
def EventGoesWrongFalsely : Prop := eventGoesRow.holds Try.pinned (OpenSpec.ofChange eventGoesWrong)

/- THE SECOND FORM. 'bulk': how many values and letters a reading holds, each counted each time it is reached (what is shared counts as often as it is met; a slice's spare places count too). A statement '..UptoSaid' is the law's where the arguments, and the package variables that the reading takes, are together of bulk at most 1048576: NARROWER than '..Said'. Prove '..Said' where nothing that the law and all that it calls make is longer than what came in: it says more and counts as full. Else prove '..UptoSaid'. A law counts once. -/
mutual
def uptoBulk {H : Type} : DataW H → Nat
  | .lit (.string bytes) => bytes.length + 1
  | .lit _ => 1
  | .nil => 1
  | .ptr d => uptoBulk d + 1
  | .slice elems spare => uptoBulkAll elems + uptoBulkAll spare + 1
  | .agg parts => uptoBulkAll parts + 1
  | .iface _ d => uptoBulk d + 1
  | .map entries => uptoBulkEntries entries + 1
  | .held _ => 1
def uptoBulkAll {H : Type} : List (DataW H) → Nat
  | [] => 0
  | d :: r => uptoBulk d + uptoBulkAll r
def uptoBulkEntries {H : Type} : List (Lit × DataW H) → Nat
  | [] => 0
  | x :: r => uptoBulkEntry x + uptoBulkEntries r
def uptoBulkEntry {H : Type} : Lit × DataW H → Nat
  | (.string bytes, d) => bytes.length + uptoBulk d + 1
  | (_, d) => uptoBulk d + 1
 end
def uptoSmall : (H : Type) → List (DataW H) → Bool := fun _ ds => decide (uptoBulkAll ds ≤ 1048576)
def OpenSpec.upto (s : _root_.Go.ChangeSpec) : _root_.Go.OpenSpec := { _root_.Go.OpenSpec.ofChange s with cond := some uptoSmall }

/-- 'retracelaw30.DumpPuts', WHERE WHAT IT READS IS OF BULK AT MOST 1048576: true; the input reads as it did. -/
def dumpPutsUptoRow : OpenClaim := { program := "ythjalpodmnagnaa", sum := "6540b6418c36cc28051497dfae7a0dce4eb48c3b2bd733f0f7281c0794023ad3", func := "retrace/retracelaw30.DumpPuts", spec := "dumpPuts", unfollowed := true, recurses := true, apart := false, narrowed := true }
def DumpPutsUptoSaid : Prop := dumpPutsUptoRow.holds Try.pinned (OpenSpec.upto dumpPutsSpec)

/-- 'retracelaw30.DumpGets', WHERE WHAT IT READS IS OF BULK AT MOST 1048576: true; the input reads as it did. -/
def dumpGetsUptoRow : OpenClaim := { program := "ythjalpodmnagnaa", sum := "6540b6418c36cc28051497dfae7a0dce4eb48c3b2bd733f0f7281c0794023ad3", func := "retrace/retracelaw30.DumpGets", spec := "dumpGets", unfollowed := true, recurses := true, apart := false, narrowed := true }
def DumpGetsUptoSaid : Prop := dumpGetsUptoRow.holds Try.pinned (OpenSpec.upto dumpGetsSpec)

/-- 'retracelaw30.DumpReads', WHERE WHAT IT READS IS OF BULK AT MOST 1048576: true; the input reads as it did. -/
def dumpReadsUptoRow : OpenClaim := { program := "ythjalpodmnagnaa", sum := "6540b6418c36cc28051497dfae7a0dce4eb48c3b2bd733f0f7281c0794023ad3", func := "retrace/retracelaw30.DumpReads", spec := "dumpReads", unfollowed := true, recurses := true, apart := false, narrowed := true }
def DumpReadsUptoSaid : Prop := dumpReadsUptoRow.holds Try.pinned (OpenSpec.upto dumpReadsSpec)

/-- 'retracelaw31.EventChecks', WHERE WHAT IT READS IS OF BULK AT MOST 1048576: true; the input reads as it did. -/
def eventChecksUptoRow : OpenClaim := { program := "ythjalpodmnagnaa", sum := "6540b6418c36cc28051497dfae7a0dce4eb48c3b2bd733f0f7281c0794023ad3", func := "retrace/retracelaw31.EventChecks", spec := "eventChecks", unfollowed := true, recurses := true, apart := false, narrowed := true }
def EventChecksUptoSaid : Prop := eventChecksUptoRow.holds Try.pinned (OpenSpec.upto eventChecksSpec)

/-- 'retracelaw31.EventPlaces', WHERE WHAT IT READS IS OF BULK AT MOST 1048576: true; the input reads as it did. -/
def eventPlacesUptoRow : OpenClaim := { program := "ythjalpodmnagnaa", sum := "6540b6418c36cc28051497dfae7a0dce4eb48c3b2bd733f0f7281c0794023ad3", func := "retrace/retracelaw31.EventPlaces", spec := "eventPlaces", unfollowed := true, recurses := true, apart := false, narrowed := true }
def EventPlacesUptoSaid : Prop := eventPlacesUptoRow.holds Try.pinned (OpenSpec.upto eventPlacesSpec)

/-- 'retracelaw31.EventGets', WHERE WHAT IT READS IS OF BULK AT MOST 1048576: true; the input reads as it did. -/
def eventGetsUptoRow : OpenClaim := { program := "ythjalpodmnagnaa", sum := "6540b6418c36cc28051497dfae7a0dce4eb48c3b2bd733f0f7281c0794023ad3", func := "retrace/retracelaw31.EventGets", spec := "eventGets", unfollowed := true, recurses := true, apart := false, narrowed := true }
def EventGetsUptoSaid : Prop := eventGetsUptoRow.holds Try.pinned (OpenSpec.upto eventGetsSpec)

/-- 'retracelaw31.EventBack', WHERE WHAT IT READS IS OF BULK AT MOST 1048576: true; the input reads as it did. -/
def eventBackUptoRow : OpenClaim := { program := "ythjalpodmnagnaa", sum := "6540b6418c36cc28051497dfae7a0dce4eb48c3b2bd733f0f7281c0794023ad3", func := "retrace/retracelaw31.EventBack", spec := "eventBack", unfollowed := true, recurses := true, apart := false, narrowed := true }
def EventBackUptoSaid : Prop := eventBackUptoRow.holds Try.pinned (OpenSpec.upto eventBackSpec)

/-- 'retracelaw31.EventGoes', WHERE WHAT IT READS IS OF BULK AT MOST 1048576: true; the input reads as it did. -/
def eventGoesUptoRow : OpenClaim := { program := "ythjalpodmnagnaa", sum := "6540b6418c36cc28051497dfae7a0dce4eb48c3b2bd733f0f7281c0794023ad3", func := "retrace/retracelaw31.EventGoes", spec := "eventGoes", unfollowed := true, recurses := true, apart := false, narrowed := true }
def EventGoesUptoSaid : Prop := eventGoesUptoRow.holds Try.pinned (OpenSpec.upto eventGoesSpec)

end Rows
end Go.Proofs.Ythjalpodmnagnaa
