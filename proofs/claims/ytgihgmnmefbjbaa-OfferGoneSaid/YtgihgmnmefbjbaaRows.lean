/-
  No cell of these rows narrows 'for every input' (looked for: loops, veiled, ifaces, maps, wideKeys, modest, calm, conditions, laid).
  DERIVED. THE GIVEN ROWS OF THIS SEAT. 8 by the template 'for every input the law returns true; each argument reads behind the call as it read before'; 0 by the template 'total and deterministic' (their statements: YtgihgmnmefbjbaaTotals.lean).
  GIVEN WITH THE SEED: the statements are not yours to turn. If you find one false, say at which input.
  Laid BY PROGRAM, IN A SANDBOX (cutbox-rows.mjs): the forced cells as the released guide's own fill.sh prints them over the translation 90e761342c0c972f… (all of the seat's roots in one cut). By AI agents, Wed Nov 11 2026. No macro, syntax, notation, axiom, sorry.
-/
import Derived.Test.YtgihgmnmefbjbaaChecked
import GoSem.Claim
import GoSem.ClaimJoined
import GoSem.ClaimMapViews
import Derived.JoinedTies
import Derived.KernelRfl
namespace Go.Proofs.Ytgihgmnmefbjbaa
/- THE CELL 'sum', in the pinned program and in every row, IS THE sha256 OF THE DUMP (.gsa) THAT YtgihgmnmefbjbaaProg.lean LOADS. Nothing in Lean hashes anything: it is a label: what it is worth is what the hold of that sum in a sandbox is worth. -/
noncomputable def Try.pinned : Pinned := { name := "ytgihgmnmefbjbaa", sum := "90e761342c0c972ff17d4dd2559de75a34da3a04396fd71f7653b6085c4a3446", checked := Try.checked }
namespace Rows
def none {H : Type} : Left H := { results := [], args := [] }

/-- 'retracelaw25.OfferFinds': WHATEVER THE INPUT: true; the input reads as it did. -/
def offerFindsSpec : ChangeSpec := { name := "offerFinds", fn := fun _ => fun
  | [d1, d2, d3, d4] => { results := [.lit (.bool true)], args := [d1, d2, d3, d4] }
  | _ => none }
def offerFindsRow : OpenClaim := { program := "ytgihgmnmefbjbaa", sum := "90e761342c0c972ff17d4dd2559de75a34da3a04396fd71f7653b6085c4a3446", func := "retrace/retracelaw25.OfferFinds", spec := "offerFinds", unfollowed := true, recurses := true, apart := false }
def OfferFindsSaid : Prop := offerFindsRow.holds Try.pinned (OpenSpec.ofChange offerFindsSpec)

/-- ITS FALSE NEIGHBOUR: 'it returns false'. Refute it at one input. -/
def offerFindsWrong : ChangeSpec := { name := "offerFinds", fn := fun _ => fun
  | [d1, d2, d3, d4] => { results := [.lit (.bool false)], args := [d1, d2, d3, d4] }
  | _ => none }
def OfferFindsWrongFalsely : Prop := offerFindsRow.holds Try.pinned (OpenSpec.ofChange offerFindsWrong)

/-- 'retracelaw25.OfferTells': WHATEVER THE INPUT: true; the input reads as it did. -/
def offerTellsSpec : ChangeSpec := { name := "offerTells", fn := fun _ => fun
  | [d1, d2, d3, d4, d5] => { results := [.lit (.bool true)], args := [d1, d2, d3, d4, d5] }
  | _ => none }
def offerTellsRow : OpenClaim := { program := "ytgihgmnmefbjbaa", sum := "90e761342c0c972ff17d4dd2559de75a34da3a04396fd71f7653b6085c4a3446", func := "retrace/retracelaw25.OfferTells", spec := "offerTells", unfollowed := true, recurses := true, apart := false }
def OfferTellsSaid : Prop := offerTellsRow.holds Try.pinned (OpenSpec.ofChange offerTellsSpec)

/-- ITS FALSE NEIGHBOUR: 'it returns false'. Refute it at one input. -/
def offerTellsWrong : ChangeSpec := { name := "offerTells", fn := fun _ => fun
  | [d1, d2, d3, d4, d5] => { results := [.lit (.bool false)], args := [d1, d2, d3, d4, d5] }
  | _ => none }
def OfferTellsWrongFalsely : Prop := offerTellsRow.holds Try.pinned (OpenSpec.ofChange offerTellsWrong)

/-- 'retracelaw25.OfferMeets': WHATEVER THE INPUT: true; the input reads as it did. -/
def offerMeetsSpec : ChangeSpec := { name := "offerMeets", fn := fun _ => fun
  | [d1, d2, d3, d4] => { results := [.lit (.bool true)], args := [d1, d2, d3, d4] }
  | _ => none }
def offerMeetsRow : OpenClaim := { program := "ytgihgmnmefbjbaa", sum := "90e761342c0c972ff17d4dd2559de75a34da3a04396fd71f7653b6085c4a3446", func := "retrace/retracelaw25.OfferMeets", spec := "offerMeets", unfollowed := true, recurses := true, apart := false }
def OfferMeetsSaid : Prop := offerMeetsRow.holds Try.pinned (OpenSpec.ofChange offerMeetsSpec)

/-- ITS FALSE NEIGHBOUR: 'it returns false'. Refute it at one input. -/
def offerMeetsWrong : ChangeSpec := { name := "offerMeets", fn := fun _ => fun
  | [d1, d2, d3, d4] => { results := [.lit (.bool false)], args := [d1, d2, d3, d4] }
  | _ => none }
def OfferMeetsWrongFalsely : Prop := offerMeetsRow.holds Try.pinned (OpenSpec.ofChange offerMeetsWrong)

/-- 'retracelaw25.OfferGone': WHATEVER THE INPUT: true; the input reads as it did. -/
def offerGoneSpec : ChangeSpec := { name := "offerGone", fn := fun _ => fun
  | [d1, d2, d3, d4, d5] => { results := [.lit (.bool true)], args := [d1, d2, d3, d4, d5] }
  | _ => none }
def offerGoneRow : OpenClaim := { program := "ytgihgmnmefbjbaa", sum := "90e761342c0c972ff17d4dd2559de75a34da3a04396fd71f7653b6085c4a3446", func := "retrace/retracelaw25.OfferGone", spec := "offerGone", unfollowed := true, recurses := true, apart := false }
def OfferGoneSaid : Prop := offerGoneRow.holds Try.pinned (OpenSpec.ofChange offerGoneSpec)

/-- ITS FALSE NEIGHBOUR: 'it returns false'. Refute it at one input. -/
def offerGoneWrong : ChangeSpec := { name := "offerGone", fn := fun _ => fun
  | [d1, d2, d3, d4, d5] => { results := [.lit (.bool false)], args := [d1, d2, d3, d4, d5] }
  | _ => none }
def OfferGoneWrongFalsely : Prop := offerGoneRow.holds Try.pinned (OpenSpec.ofChange offerGoneWrong)

/-- 'retracelaw26.ClockLater': WHATEVER THE INPUT: true; the input reads as it did. -/
def clockLaterSpec : ChangeSpec := { name := "clockLater", fn := fun _ => fun
  | [d1, d2] => { results := [.lit (.bool true)], args := [d1, d2] }
  | _ => none }
def clockLaterRow : OpenClaim := { program := "ytgihgmnmefbjbaa", sum := "90e761342c0c972ff17d4dd2559de75a34da3a04396fd71f7653b6085c4a3446", func := "retrace/retracelaw26.ClockLater", spec := "clockLater", unfollowed := true, recurses := true, apart := false }
def ClockLaterSaid : Prop := clockLaterRow.holds Try.pinned (OpenSpec.ofChange clockLaterSpec)

/-- ITS FALSE NEIGHBOUR: 'it returns false'. Refute it at one input. -/
def clockLaterWrong : ChangeSpec := { name := "clockLater", fn := fun _ => fun
  | [d1, d2] => { results := [.lit (.bool false)], args := [d1, d2] }
  | _ => none }
def ClockLaterWrongFalsely : Prop := clockLaterRow.holds Try.pinned (OpenSpec.ofChange clockLaterWrong)

/-- 'retracelaw26.ClockDue': WHATEVER THE INPUT: true; the input reads as it did. -/
def clockDueSpec : ChangeSpec := { name := "clockDue", fn := fun _ => fun
  | [d1, d2] => { results := [.lit (.bool true)], args := [d1, d2] }
  | _ => none }
def clockDueRow : OpenClaim := { program := "ytgihgmnmefbjbaa", sum := "90e761342c0c972ff17d4dd2559de75a34da3a04396fd71f7653b6085c4a3446", func := "retrace/retracelaw26.ClockDue", spec := "clockDue", unfollowed := true, recurses := true, apart := false }
def ClockDueSaid : Prop := clockDueRow.holds Try.pinned (OpenSpec.ofChange clockDueSpec)

/-- ITS FALSE NEIGHBOUR: 'it returns false'. Refute it at one input. -/
def clockDueWrong : ChangeSpec := { name := "clockDue", fn := fun _ => fun
  | [d1, d2] => { results := [.lit (.bool false)], args := [d1, d2] }
  | _ => none }
def ClockDueWrongFalsely : Prop := clockDueRow.holds Try.pinned (OpenSpec.ofChange clockDueWrong)

/-- 'retracelaw26.ClockTicks': WHATEVER THE INPUT: true; the input reads as it did. -/
def clockTicksSpec : ChangeSpec := { name := "clockTicks", fn := fun _ => fun
  | [d1, d2, d3] => { results := [.lit (.bool true)], args := [d1, d2, d3] }
  | _ => none }
def clockTicksRow : OpenClaim := { program := "ytgihgmnmefbjbaa", sum := "90e761342c0c972ff17d4dd2559de75a34da3a04396fd71f7653b6085c4a3446", func := "retrace/retracelaw26.ClockTicks", spec := "clockTicks", unfollowed := true, recurses := true, apart := false }
def ClockTicksSaid : Prop := clockTicksRow.holds Try.pinned (OpenSpec.ofChange clockTicksSpec)

/-- ITS FALSE NEIGHBOUR: 'it returns false'. Refute it at one input. -/
def clockTicksWrong : ChangeSpec := { name := "clockTicks", fn := fun _ => fun
  | [d1, d2, d3] => { results := [.lit (.bool false)], args := [d1, d2, d3] }
  | _ => none }
def ClockTicksWrongFalsely : Prop := clockTicksRow.holds Try.pinned (OpenSpec.ofChange clockTicksWrong)

/-- 'retracelaw26.ClockAfter': WHATEVER THE INPUT: true; the input reads as it did. -/
def clockAfterSpec : ChangeSpec := { name := "clockAfter", fn := fun _ => fun
  | [d1, d2, d3] => { results := [.lit (.bool true)], args := [d1, d2, d3] }
  | _ => none }
def clockAfterRow : OpenClaim := { program := "ytgihgmnmefbjbaa", sum := "90e761342c0c972ff17d4dd2559de75a34da3a04396fd71f7653b6085c4a3446", func := "retrace/retracelaw26.ClockAfter", spec := "clockAfter", unfollowed := true, recurses := true, apart := false }
def ClockAfterSaid : Prop := clockAfterRow.holds Try.pinned (OpenSpec.ofChange clockAfterSpec)

/-- ITS FALSE NEIGHBOUR: 'it returns false'. Refute it at one input. -/
def clockAfterWrong : ChangeSpec := { name := "clockAfter", fn := fun _ => fun
  | [d1, d2, d3] => { results := [.lit (.bool false)], args := [d1, d2, d3] }
  | _ => none }
def ClockAfterWrongFalsely : Prop := clockAfterRow.holds Try.pinned (OpenSpec.ofChange clockAfterWrong)

/- THE SECOND FORM. 'bulk': how many values and letters a reading holds, each counted each time it is reached (what is shared counts as often as it is met; a slice's spare places count too). A statement '..UptoSaid' is the law's where the arguments, and the package variables that the reading takes, are together of bulk at most 1048576: NARROWER than '..Said'. Prove '..Said' where nothing that the law and all that it calls make is longer than what came in: it says more and counts as full. Else prove '..UptoSaid'. A law counts once. -/
mutual
def uptoBulk {H : Type} : DataW H → Nat
  | .lit (.string bytes) => bytes.length + 1
  | .lit _ => 1
  | .nil => 1
  | .ptr d => uptoBulk d + 1
  | .slice elems spare => uptoBulkAll elems + uptoBulkAll spare + 1
  | .agg parts => uptoBulkAll parts + 1
  | .iface _ d => uptoBulk d + 1
  | .map entries => uptoBulkEntries entries + 1
  | .held _ => 1
def uptoBulkAll {H : Type} : List (DataW H) → Nat
  | [] => 0
  | d :: r => uptoBulk d + uptoBulkAll r
def uptoBulkEntries {H : Type} : List (Lit × DataW H) → Nat
  | [] => 0
  | x :: r => uptoBulkEntry x + uptoBulkEntries r
def uptoBulkEntry {H : Type} : Lit × DataW H → Nat
  | (.string bytes, d) => bytes.length + uptoBulk d + 1
  | (_, d) => uptoBulk d + 1
 end
def uptoSmall : (H : Type) → List (DataW H) → Bool := fun _ ds => decide (uptoBulkAll ds ≤ 1048576)
def OpenSpec.upto (s : _root_.Go.ChangeSpec) : _root_.Go.OpenSpec := { _root_.Go.OpenSpec.ofChange s with cond := some uptoSmall }

/-- 'retracelaw25.OfferFinds', WHERE WHAT IT READS IS OF BULK AT MOST 1048576: true; the input reads as it did. -/
def offerFindsUptoRow : OpenClaim := { program := "ytgihgmnmefbjbaa", sum := "90e761342c0c972ff17d4dd2559de75a34da3a04396fd71f7653b6085c4a3446", func := "retrace/retracelaw25.OfferFinds", spec := "offerFinds", unfollowed := true, recurses := true, apart := false, narrowed := true }
def OfferFindsUptoSaid : Prop := offerFindsUptoRow.holds Try.pinned (OpenSpec.upto offerFindsSpec)

/-- 'retracelaw25.OfferTells', WHERE WHAT IT READS IS OF BULK AT MOST 1048576: true; the input reads as it did. -/
def offerTellsUptoRow : OpenClaim := { program := "ytgihgmnmefbjbaa", sum := "90e761342c0c972ff17d4dd2559de75a34da3a04396fd71f7653b6085c4a3446", func := "retrace/retracelaw25.OfferTells", spec := "offerTells", unfollowed := true, recurses := true, apart := false, narrowed := true }
def OfferTellsUptoSaid : Prop := offerTellsUptoRow.holds Try.pinned (OpenSpec.upto offerTellsSpec)

/-- 'retracelaw25.OfferMeets', WHERE WHAT IT READS IS OF BULK AT MOST 1048576: true; the input reads as it did. -/
def offerMeetsUptoRow : OpenClaim := { program := "ytgihgmnmefbjbaa", sum := "90e761342c0c972ff17d4dd2559de75a34da3a04396fd71f7653b6085c4a3446", func := "retrace/retracelaw25.OfferMeets", spec := "offerMeets", unfollowed := true, recurses := true, apart := false, narrowed := true }
def OfferMeetsUptoSaid : Prop := offerMeetsUptoRow.holds Try.pinned (OpenSpec.upto offerMeetsSpec)

/-- 'retracelaw25.OfferGone', WHERE WHAT IT READS IS OF BULK AT MOST 1048576: true; the input reads as it did. -/
def offerGoneUptoRow : OpenClaim := { program := "ytgihgmnmefbjbaa", sum := "90e761342c0c972ff17d4dd2559de75a34da3a04396fd71f7653b6085c4a3446", func := "retrace/retracelaw25.OfferGone", spec := "offerGone", unfollowed := true, recurses := true, apart := false, narrowed := true }
def OfferGoneUptoSaid : Prop := offerGoneUptoRow.holds Try.pinned (OpenSpec.upto offerGoneSpec)

/-- 'retracelaw26.ClockLater', WHERE WHAT IT READS IS OF BULK AT MOST 1048576: true; the input reads as it did. -/
def clockLaterUptoRow : OpenClaim := { program := "ytgihgmnmefbjbaa", sum := "90e761342c0c972ff17d4dd2559de75a34da3a04396fd71f7653b6085c4a3446", func := "retrace/retracelaw26.ClockLater", spec := "clockLater", unfollowed := true, recurses := true, apart := false, narrowed := true }
def ClockLaterUptoSaid : Prop := clockLaterUptoRow.holds Try.pinned (OpenSpec.upto clockLaterSpec)

/-- 'retracelaw26.ClockDue', WHERE WHAT IT READS IS OF BULK AT MOST 1048576: true; the input reads as it did. -/
def clockDueUptoRow : OpenClaim := { program := "ytgihgmnmefbjbaa", sum := "90e761342c0c972ff17d4dd2559de75a34da3a04396fd71f7653b6085c4a3446", func := "retrace/retracelaw26.ClockDue", spec := "clockDue", unfollowed := true, recurses := true, apart := false, narrowed := true }
def ClockDueUptoSaid : Prop := clockDueUptoRow.holds Try.pinned (OpenSpec.upto clockDueSpec)

/-- 'retracelaw26.ClockTicks', WHERE WHAT IT READS IS OF BULK AT MOST 1048576: true; the input reads as it did. -/
def clockTicksUptoRow : OpenClaim := { program := "ytgihgmnmefbjbaa", sum := "90e761342c0c972ff17d4dd2559de75a34da3a04396fd71f7653b6085c4a3446", func := "retrace/retracelaw26.ClockTicks", spec := "clockTicks", unfollowed := true, recurses := true, apart := false, narrowed := true }
def ClockTicksUptoSaid : Prop := clockTicksUptoRow.holds Try.pinned (OpenSpec.upto clockTicksSpec)

/-- 'retracelaw26.ClockAfter', WHERE WHAT IT READS IS OF BULK AT MOST 1048576: true; the input reads as it did. -/
def clockAfterUptoRow : OpenClaim := { program := "ytgihgmnmefbjbaa", sum := "90e761342c0c972ff17d4dd2559de75a34da3a04396fd71f7653b6085c4a3446", func := "retrace/retracelaw26.ClockAfter", spec := "clockAfter", unfollowed := true, recurses := true, apart := false, narrowed := true }
def ClockAfterUptoSaid : Prop := clockAfterUptoRow.holds Try.pinned (OpenSpec.upto clockAfterSpec)

end Rows
end Go.Proofs.Ytgihgmnmefbjbaa
