/- dump.Put has the bytes of any state (of at most 20 processes) as the reference says; got by dump.Get, it is that state. -/
import Derived.Test.YthjalpodmnagnaaPDump2
import Derived.Test.YthjalpodmnagnaaGDmC
import Derived.Test.YthjalpodmnagnaaAbOpen
import Derived.Test.YthjalpodmnagnaaRows
import Derived.WalkKit
import Derived.ProofKit
import Derived.OpenShut
import Derived.ShutString
import Derived.ChangeOld
import Derived.Below
namespace Go.Proofs.Ythjalpodmnagnaa.dumpPuts
open Go.ChangeShapes Go.WideShapes Go.ChangeAt Go.RowKit Go.Ab
open Go.ChangeMaps (open_string shut_string)
set_option linter.unusedVariables false

theorem own : ownKnob Try.prog.godebug = none := by kernel_rfl
theorem laid : laidOutB Try.prog = true := by kernel_rfl

def ok_102 (x : T_api_Alt) : Prop := (fun n : Int => IntKind.i64.min ≤ n ∧ n ≤ IntKind.i64.max) x.Kind ∧ (fun n : Int => IntKind.i64.min ≤ n ∧ n ≤ IntKind.i64.max) x.Chan ∧ (fun n : Int => IntKind.i64.min ≤ n ∧ n ≤ IntKind.i64.max) x.Val ∧ (fun n : Int => IntKind.i64.min ≤ n ∧ n ≤ IntKind.i64.max) x.Slot ∧ (fun n : Int => IntKind.i64.min ≤ n ∧ n ≤ IntKind.i64.max) x.Goto
theorem dec_102 : DecT Try.prog 102 T_api_Alt.enc ok_102 := by
  intro ds h
  have hl := h.len Try.underlying102 5 (by kernel_rfl)
  match ds, hl, h with
  | [c0, c1, c2, c3, c4], _, h =>
    obtain ⟨x0, e0, k0⟩ := (decInt Try.underlying3) _ (h.fieldAt Try.underlying102 0 3 0 1 (by kernel_rfl))
    replace e0 : [c0] = (eInt .i64) x0 := e0
    obtain ⟨x1, e1, k1⟩ := (decInt Try.underlying3) _ (h.fieldAt Try.underlying102 1 3 1 1 (by kernel_rfl))
    replace e1 : [c1] = (eInt .i64) x1 := e1
    obtain ⟨x2, e2, k2⟩ := (decInt Try.underlying3) _ (h.fieldAt Try.underlying102 2 3 2 1 (by kernel_rfl))
    replace e2 : [c2] = (eInt .i64) x2 := e2
    obtain ⟨x3, e3, k3⟩ := (decInt Try.underlying3) _ (h.fieldAt Try.underlying102 3 3 3 1 (by kernel_rfl))
    replace e3 : [c3] = (eInt .i64) x3 := e3
    obtain ⟨x4, e4, k4⟩ := (decInt Try.underlying3) _ (h.fieldAt Try.underlying102 4 3 4 1 (by kernel_rfl))
    replace e4 : [c4] = (eInt .i64) x4 := e4
    simp only [List.cons.injEq, and_true] at e0
    obtain rfl := e0
    simp only [List.cons.injEq, and_true] at e1
    obtain rfl := e1
    simp only [List.cons.injEq, and_true] at e2
    obtain rfl := e2
    simp only [List.cons.injEq, and_true] at e3
    obtain rfl := e3
    simp only [List.cons.injEq, and_true] at e4
    obtain rfl := e4
    exact ⟨⟨x0, x1, x2, x3, x4⟩, rfl, k0, k1, k2, k3, k4⟩
def ok_70 (x : T_api_Proc) : Prop := (fun n : Int => IntKind.i64.min ≤ n ∧ n ≤ IntKind.i64.max) x.Def ∧ (fun n : Int => IntKind.i64.min ≤ n ∧ n ≤ IntKind.i64.max) x.At ∧ (fun l : (List Int) => l.length ≤ maxLen ∧ ∀ x ∈ l, (fun n : Int => IntKind.i64.min ≤ n ∧ n ≤ IntKind.i64.max) x) x.Vars ∧ (fun n : Int => IntKind.i64.min ≤ n ∧ n ≤ IntKind.i64.max) x.Fuel ∧ (fun n : Int => IntKind.i64.min ≤ n ∧ n ≤ IntKind.i64.max) x.Mode ∧ (fun n : Int => IntKind.i64.min ≤ n ∧ n ≤ IntKind.i64.max) x.Chan ∧ (fun n : Int => IntKind.i64.min ≤ n ∧ n ≤ IntKind.i64.max) x.Val ∧ (fun n : Int => IntKind.i64.min ≤ n ∧ n ≤ IntKind.i64.max) x.Slot ∧ (fun n : Int => IntKind.i64.min ≤ n ∧ n ≤ IntKind.i64.max) x.Until ∧ (fun n : Int => IntKind.i64.min ≤ n ∧ n ≤ IntKind.i64.max) x.Since ∧ (fun l : (List T_api_Alt) => l.length ≤ maxLen ∧ ∀ x ∈ l, ok_102 x) x.Alts
theorem dec_70 : DecT Try.prog 70 T_api_Proc.enc ok_70 := by
  intro ds h
  have hl := h.len Try.underlying70 11 (by kernel_rfl)
  match ds, hl, h with
  | [c0, c1, c2, c3, c4, c5, c6, c7, c8, c9, c10], _, h =>
    obtain ⟨x0, e0, k0⟩ := (decInt Try.underlying3) _ (h.fieldAt Try.underlying70 0 3 0 1 (by kernel_rfl))
    replace e0 : [c0] = (eInt .i64) x0 := e0
    obtain ⟨x1, e1, k1⟩ := (decInt Try.underlying3) _ (h.fieldAt Try.underlying70 1 3 1 1 (by kernel_rfl))
    replace e1 : [c1] = (eInt .i64) x1 := e1
    obtain ⟨x2, e2, k2⟩ := (decList Try.underlying23 (decInt Try.underlying3)) _ (h.fieldAt Try.underlying70 2 23 2 1 (by kernel_rfl))
    replace e2 : [c2] = (eList (eInt .i64)) x2 := e2
    obtain ⟨x3, e3, k3⟩ := (decInt Try.underlying3) _ (h.fieldAt Try.underlying70 3 3 3 1 (by kernel_rfl))
    replace e3 : [c3] = (eInt .i64) x3 := e3
    obtain ⟨x4, e4, k4⟩ := (decInt Try.underlying3) _ (h.fieldAt Try.underlying70 4 3 4 1 (by kernel_rfl))
    replace e4 : [c4] = (eInt .i64) x4 := e4
    obtain ⟨x5, e5, k5⟩ := (decInt Try.underlying3) _ (h.fieldAt Try.underlying70 5 3 5 1 (by kernel_rfl))
    replace e5 : [c5] = (eInt .i64) x5 := e5
    obtain ⟨x6, e6, k6⟩ := (decInt Try.underlying3) _ (h.fieldAt Try.underlying70 6 3 6 1 (by kernel_rfl))
    replace e6 : [c6] = (eInt .i64) x6 := e6
    obtain ⟨x7, e7, k7⟩ := (decInt Try.underlying3) _ (h.fieldAt Try.underlying70 7 3 7 1 (by kernel_rfl))
    replace e7 : [c7] = (eInt .i64) x7 := e7
    obtain ⟨x8, e8, k8⟩ := (decInt Try.underlying3) _ (h.fieldAt Try.underlying70 8 3 8 1 (by kernel_rfl))
    replace e8 : [c8] = (eInt .i64) x8 := e8
    obtain ⟨x9, e9, k9⟩ := (decInt Try.underlying3) _ (h.fieldAt Try.underlying70 9 3 9 1 (by kernel_rfl))
    replace e9 : [c9] = (eInt .i64) x9 := e9
    obtain ⟨x10, e10, k10⟩ := (decList Try.underlying68 dec_102) _ (h.fieldAt Try.underlying70 10 68 10 1 (by kernel_rfl))
    replace e10 : [c10] = (eList T_api_Alt.enc) x10 := e10
    simp only [List.cons.injEq, and_true] at e0
    obtain rfl := e0
    simp only [List.cons.injEq, and_true] at e1
    obtain rfl := e1
    simp only [List.cons.injEq, and_true] at e2
    obtain rfl := e2
    simp only [List.cons.injEq, and_true] at e3
    obtain rfl := e3
    simp only [List.cons.injEq, and_true] at e4
    obtain rfl := e4
    simp only [List.cons.injEq, and_true] at e5
    obtain rfl := e5
    simp only [List.cons.injEq, and_true] at e6
    obtain rfl := e6
    simp only [List.cons.injEq, and_true] at e7
    obtain rfl := e7
    simp only [List.cons.injEq, and_true] at e8
    obtain rfl := e8
    simp only [List.cons.injEq, and_true] at e9
    obtain rfl := e9
    simp only [List.cons.injEq, and_true] at e10
    obtain rfl := e10
    exact ⟨⟨x0, x1, x2, x3, x4, x5, x6, x7, x8, x9, x10⟩, rfl, k0, k1, k2, k3, k4, k5, k6, k7, k8, k9, k10⟩
def ok_25 (x : T_api_State) : Prop := (fun n : Int => IntKind.i64.min ≤ n ∧ n ≤ IntKind.i64.max) x.Now ∧ (fun n : Int => IntKind.i64.min ≤ n ∧ n ≤ IntKind.i64.max) x.Since ∧ (fun n : Int => IntKind.i64.min ≤ n ∧ n ≤ IntKind.i64.max) x.Halt ∧ (fun n : Int => IntKind.i64.min ≤ n ∧ n ≤ IntKind.i64.max) x.Fault ∧ (fun n : Int => IntKind.i64.min ≤ n ∧ n ≤ IntKind.i64.max) x.Who ∧ (fun l : (List T_api_Proc) => l.length ≤ maxLen ∧ ∀ x ∈ l, ok_70 x) x.Procs ∧ (fun l : (List Int) => l.length ≤ maxLen ∧ ∀ x ∈ l, (fun n : Int => IntKind.i64.min ≤ n ∧ n ≤ IntKind.i64.max) x) x.Out
theorem dec_25 : DecT Try.prog 25 T_api_State.enc ok_25 := by
  intro ds h
  have hl := h.len Try.underlying25 7 (by kernel_rfl)
  match ds, hl, h with
  | [c0, c1, c2, c3, c4, c5, c6], _, h =>
    obtain ⟨x0, e0, k0⟩ := (decInt Try.underlying3) _ (h.fieldAt Try.underlying25 0 3 0 1 (by kernel_rfl))
    replace e0 : [c0] = (eInt .i64) x0 := e0
    obtain ⟨x1, e1, k1⟩ := (decInt Try.underlying3) _ (h.fieldAt Try.underlying25 1 3 1 1 (by kernel_rfl))
    replace e1 : [c1] = (eInt .i64) x1 := e1
    obtain ⟨x2, e2, k2⟩ := (decInt Try.underlying3) _ (h.fieldAt Try.underlying25 2 3 2 1 (by kernel_rfl))
    replace e2 : [c2] = (eInt .i64) x2 := e2
    obtain ⟨x3, e3, k3⟩ := (decInt Try.underlying3) _ (h.fieldAt Try.underlying25 3 3 3 1 (by kernel_rfl))
    replace e3 : [c3] = (eInt .i64) x3 := e3
    obtain ⟨x4, e4, k4⟩ := (decInt Try.underlying3) _ (h.fieldAt Try.underlying25 4 3 4 1 (by kernel_rfl))
    replace e4 : [c4] = (eInt .i64) x4 := e4
    obtain ⟨x5, e5, k5⟩ := (decList Try.underlying22 dec_70) _ (h.fieldAt Try.underlying25 5 22 5 1 (by kernel_rfl))
    replace e5 : [c5] = (eList T_api_Proc.enc) x5 := e5
    obtain ⟨x6, e6, k6⟩ := (decList Try.underlying23 (decInt Try.underlying3)) _ (h.fieldAt Try.underlying25 6 23 6 1 (by kernel_rfl))
    replace e6 : [c6] = (eList (eInt .i64)) x6 := e6
    simp only [List.cons.injEq, and_true] at e0
    obtain rfl := e0
    simp only [List.cons.injEq, and_true] at e1
    obtain rfl := e1
    simp only [List.cons.injEq, and_true] at e2
    obtain rfl := e2
    simp only [List.cons.injEq, and_true] at e3
    obtain rfl := e3
    simp only [List.cons.injEq, and_true] at e4
    obtain rfl := e4
    simp only [List.cons.injEq, and_true] at e5
    obtain rfl := e5
    simp only [List.cons.injEq, and_true] at e6
    obtain rfl := e6
    exact ⟨⟨x0, x1, x2, x3, x4, x5, x6⟩, rfl, k0, k1, k2, k3, k4, k5, k6⟩

theorem told (a0 : T_api_State) (k0 : ok_25 a0) : FnOK Try.prog 3 [.agg (T_api_State.pvs a0)] [] (bo true) [] [] :=
  C_retracelaw30_DumpPuts a0 true (law_dputs a0 ⟨⟨k0.1, k0.2.1, k0.2.2.1, k0.2.2.2.1, k0.2.2.2.2.1⟩, Nat.lt_succ_of_le k0.2.2.2.2.2.1.1, k0.2.2.2.2.2.2.2, fun p h => have q := k0.2.2.2.2.2.1.2 p h; ⟨⟨q.1, q.2.1⟩, q.2.2.1.2, ⟨q.2.2.2.1, q.2.2.2.2.1, q.2.2.2.2.2.1, q.2.2.2.2.2.2.1, q.2.2.2.2.2.2.2.1, q.2.2.2.2.2.2.2.2.1, q.2.2.2.2.2.2.2.2.2.1⟩, q.2.2.2.2.2.2.2.2.2.2.2⟩⟩)

set_option maxRecDepth 100000 in
theorem lifted (os : Os) (started : os.Started) (H : Type) (enc : TypeId × Value → H) :
    ReturnsInHanded {} Try.checked os 3 .any (Rows.dumpPutsSpec.pre6 enc Try.prog Try.f3 Rows.dumpPutsRow.domain false) (Rows.dumpPutsSpec.post enc Try.prog Try.f3 false true false false) := by
  refine returnsInHanded_of_change (C := Try.checked) own started (by kernel_rfl) Try.func3
    (ChangeSpec.witness6 (enc := enc) (C := Try.checked) false ⟨#[], #[.agg #[.int .i64 0, .int .i64 0, .int .i64 0, .int .i64 0, .int .i64 0, .slice none 0 0, .slice none 0 0]], []⟩ 8 (by kernel_rfl) (by kernel_rfl) (by kernel_rfl) (by kernel_rfl)) ?_
  intro W base args ds gs before hval0 hW hcnd _
  have hval : ∀ (j : Nat) t v, Try.f3.params[j]? = some t → args[j]? = some v → Value.okWide Try.prog W .any base t v := hval0
  have hW' := hW
  obtain ⟨p, q, hA0, hV, rfl, hfz, hnd⟩ := hW
  have hA : DataW.TrodAll enc Try.prog W 0 (fun _ => true) true Try.f3.params.toList args.toList ds p := hA0
  rw [Try.params3] at hA hval
  obtain ⟨v0, vs0, d0, ds0, p0, q0, hargs, rfl, rfl, h0, r0⟩ := trodAll_cons hA
  obtain ⟨rfl, rfl, rfl⟩ := trodAll_nil r0
  obtain rfl : args = #[v0] := by cases args; simp_all
  obtain ⟨rfl, rfl⟩ := trodVars_none hV
  obtain ⟨y0, rel0, wf0⟩ := open_agg Try.underlying25 (by kernel_rfl) (hval 0 25 v0 rfl rfl) h0
  obtain ⟨a0, e0, w0⟩ := dec_25 _ wf0
  subst e0
  clear hA0 hval0
  refine (law_of (told a0 w0) W (.cons rel0 .nil)).mono fun e W' ⟨he, bel⟩ => ?_
  subst he
  exact ⟨_, rfl, _, _, _, [], _, [], hW', trodAll_mk1 (shut_bool Try.underlying4 _), (trodAll_cons_mk (keep_arg laid (by kernel_rfl) (of_decide_eq_true (by kernel_rfl)) h0 bel) trodAll_mk0), rfl, bel.frame _, fun h => by cases h⟩

theorem over : Rows.dumpPutsRow.holds Try.pinned (OpenSpec.ofChange Rows.dumpPutsSpec) :=
  OpenClaim.holds_of_wide 3 Try.f3 rfl rfl rfl rfl rfl rfl rfl ⟨rfl, rfl, rfl, rfl, rfl⟩ rfl rfl rfl rfl rfl (by kernel_rfl) Try.func3 (by kernel_rfl)
    (of_decide_eq_true (by kernel_rfl)) (by unfold Func.isWrapper; first | (rw [if_pos (by decide +kernel)]; kernel_rfl) | (rw [if_neg (by decide +kernel)]; exact ⟨rfl, rfl⟩))
    (fun os started H enc _ => lifted os started H enc)

theorem proved : Rows.DumpPutsSaid := over
#print axioms proved
end Go.Proofs.Ythjalpodmnagnaa.dumpPuts
