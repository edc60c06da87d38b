/- run.Same tells whether any two effects are alike as the document does (of at most 40 numbers and alternatives), and any one is like itself. -/
import Derived.Test.YtholdfpblliiiaaGreatRSame
import Derived.Test.YtholdfpblliiiaaGreatGRbC
import Derived.Test.YtholdfpblliiiaaGreatAbOpen
import Derived.Test.YtholdfpblliiiaaGreatRows
import Derived.WalkKit
import Derived.ProofKit
import Derived.OpenShut
import Derived.ShutString
import Derived.ChangeOld
import Derived.Below
namespace Go.Proofs.YtholdfpblliiiaaGreat.runSame
open Go.ChangeShapes Go.WideShapes Go.ChangeAt Go.RowKit Go.Ab
open Go.ChangeMaps (open_string shut_string)
set_option linter.unusedVariables false

theorem own : ownKnob Tryz.prog.godebug = none := by kernel_rfl
theorem laid : laidOutB Tryz.prog = true := by kernel_rfl

def ok_47 (x : T_api_Alt) : Prop := (fun n : Int => IntKind.i64.min ≤ n ∧ n ≤ IntKind.i64.max) x.Kind ∧ (fun n : Int => IntKind.i64.min ≤ n ∧ n ≤ IntKind.i64.max) x.Chan ∧ (fun n : Int => IntKind.i64.min ≤ n ∧ n ≤ IntKind.i64.max) x.Val ∧ (fun n : Int => IntKind.i64.min ≤ n ∧ n ≤ IntKind.i64.max) x.Slot ∧ (fun n : Int => IntKind.i64.min ≤ n ∧ n ≤ IntKind.i64.max) x.Goto
theorem dec_47 : DecT Tryz.prog 47 T_api_Alt.enc ok_47 := by
  intro ds h
  have hl := h.len Tryz.underlying47 5 (by kernel_rfl)
  match ds, hl, h with
  | [c0, c1, c2, c3, c4], _, h =>
    obtain ⟨x0, e0, k0⟩ := (decInt Tryz.underlying3) _ (h.fieldAt Tryz.underlying47 0 3 0 1 (by kernel_rfl))
    replace e0 : [c0] = (eInt .i64) x0 := e0
    obtain ⟨x1, e1, k1⟩ := (decInt Tryz.underlying3) _ (h.fieldAt Tryz.underlying47 1 3 1 1 (by kernel_rfl))
    replace e1 : [c1] = (eInt .i64) x1 := e1
    obtain ⟨x2, e2, k2⟩ := (decInt Tryz.underlying3) _ (h.fieldAt Tryz.underlying47 2 3 2 1 (by kernel_rfl))
    replace e2 : [c2] = (eInt .i64) x2 := e2
    obtain ⟨x3, e3, k3⟩ := (decInt Tryz.underlying3) _ (h.fieldAt Tryz.underlying47 3 3 3 1 (by kernel_rfl))
    replace e3 : [c3] = (eInt .i64) x3 := e3
    obtain ⟨x4, e4, k4⟩ := (decInt Tryz.underlying3) _ (h.fieldAt Tryz.underlying47 4 3 4 1 (by kernel_rfl))
    replace e4 : [c4] = (eInt .i64) x4 := e4
    simp only [List.cons.injEq, and_true] at e0
    obtain rfl := e0
    simp only [List.cons.injEq, and_true] at e1
    obtain rfl := e1
    simp only [List.cons.injEq, and_true] at e2
    obtain rfl := e2
    simp only [List.cons.injEq, and_true] at e3
    obtain rfl := e3
    simp only [List.cons.injEq, and_true] at e4
    obtain rfl := e4
    exact ⟨⟨x0, x1, x2, x3, x4⟩, rfl, k0, k1, k2, k3, k4⟩
def ok_42 (x : T_api_Effect) : Prop := (fun n : Int => IntKind.i64.min ≤ n ∧ n ≤ IntKind.i64.max) x.Kind ∧ (fun n : Int => IntKind.i64.min ≤ n ∧ n ≤ IntKind.i64.max) x.Stmt ∧ (fun n : Int => IntKind.i64.min ≤ n ∧ n ≤ IntKind.i64.max) x.At ∧ (fun n : Int => IntKind.i64.min ≤ n ∧ n ≤ IntKind.i64.max) x.Chan ∧ (fun n : Int => IntKind.i64.min ≤ n ∧ n ≤ IntKind.i64.max) x.Val ∧ (fun n : Int => IntKind.i64.min ≤ n ∧ n ≤ IntKind.i64.max) x.Slot ∧ (fun n : Int => IntKind.i64.min ≤ n ∧ n ≤ IntKind.i64.max) x.Def ∧ (fun l : (List Int) => l.length ≤ maxLen ∧ ∀ x ∈ l, (fun n : Int => IntKind.i64.min ≤ n ∧ n ≤ IntKind.i64.max) x) x.Args ∧ (fun l : (List T_api_Alt) => l.length ≤ maxLen ∧ ∀ x ∈ l, ok_47 x) x.Alts ∧ (fun n : Int => IntKind.i64.min ≤ n ∧ n ≤ IntKind.i64.max) x.Fault
theorem dec_42 : DecT Tryz.prog 42 T_api_Effect.enc ok_42 := by
  intro ds h
  have hl := h.len Tryz.underlying42 10 (by kernel_rfl)
  match ds, hl, h with
  | [c0, c1, c2, c3, c4, c5, c6, c7, c8, c9], _, h =>
    obtain ⟨x0, e0, k0⟩ := (decInt Tryz.underlying3) _ (h.fieldAt Tryz.underlying42 0 3 0 1 (by kernel_rfl))
    replace e0 : [c0] = (eInt .i64) x0 := e0
    obtain ⟨x1, e1, k1⟩ := (decInt Tryz.underlying3) _ (h.fieldAt Tryz.underlying42 1 3 1 1 (by kernel_rfl))
    replace e1 : [c1] = (eInt .i64) x1 := e1
    obtain ⟨x2, e2, k2⟩ := (decInt Tryz.underlying3) _ (h.fieldAt Tryz.underlying42 2 3 2 1 (by kernel_rfl))
    replace e2 : [c2] = (eInt .i64) x2 := e2
    obtain ⟨x3, e3, k3⟩ := (decInt Tryz.underlying3) _ (h.fieldAt Tryz.underlying42 3 3 3 1 (by kernel_rfl))
    replace e3 : [c3] = (eInt .i64) x3 := e3
    obtain ⟨x4, e4, k4⟩ := (decInt Tryz.underlying3) _ (h.fieldAt Tryz.underlying42 4 3 4 1 (by kernel_rfl))
    replace e4 : [c4] = (eInt .i64) x4 := e4
    obtain ⟨x5, e5, k5⟩ := (decInt Tryz.underlying3) _ (h.fieldAt Tryz.underlying42 5 3 5 1 (by kernel_rfl))
    replace e5 : [c5] = (eInt .i64) x5 := e5
    obtain ⟨x6, e6, k6⟩ := (decInt Tryz.underlying3) _ (h.fieldAt Tryz.underlying42 6 3 6 1 (by kernel_rfl))
    replace e6 : [c6] = (eInt .i64) x6 := e6
    obtain ⟨x7, e7, k7⟩ := (decList Tryz.underlying35 (decInt Tryz.underlying3)) _ (h.fieldAt Tryz.underlying42 7 35 7 1 (by kernel_rfl))
    replace e7 : [c7] = (eList (eInt .i64)) x7 := e7
    obtain ⟨x8, e8, k8⟩ := (decList Tryz.underlying36 dec_47) _ (h.fieldAt Tryz.underlying42 8 36 8 1 (by kernel_rfl))
    replace e8 : [c8] = (eList T_api_Alt.enc) x8 := e8
    obtain ⟨x9, e9, k9⟩ := (decInt Tryz.underlying3) _ (h.fieldAt Tryz.underlying42 9 3 9 1 (by kernel_rfl))
    replace e9 : [c9] = (eInt .i64) x9 := e9
    simp only [List.cons.injEq, and_true] at e0
    obtain rfl := e0
    simp only [List.cons.injEq, and_true] at e1
    obtain rfl := e1
    simp only [List.cons.injEq, and_true] at e2
    obtain rfl := e2
    simp only [List.cons.injEq, and_true] at e3
    obtain rfl := e3
    simp only [List.cons.injEq, and_true] at e4
    obtain rfl := e4
    simp only [List.cons.injEq, and_true] at e5
    obtain rfl := e5
    simp only [List.cons.injEq, and_true] at e6
    obtain rfl := e6
    simp only [List.cons.injEq, and_true] at e7
    obtain rfl := e7
    simp only [List.cons.injEq, and_true] at e8
    obtain rfl := e8
    simp only [List.cons.injEq, and_true] at e9
    obtain rfl := e9
    exact ⟨⟨x0, x1, x2, x3, x4, x5, x6, x7, x8, x9⟩, rfl, k0, k1, k2, k3, k4, k5, k6, k7, k8, k9⟩

theorem told (a0 : T_api_Effect) (a1 : T_api_Effect) (k0 : ok_42 a0) (k1 : ok_42 a1) : FnOK Tryz.prog 5 [.agg (T_api_Effect.pvs a0), .agg (T_api_Effect.pvs a1)] [] (bo true) [] [] :=
  C_retracelaw24_RunSame a0 a1 true (law_rsame a0 a1)

set_option maxRecDepth 100000 in
theorem lifted (os : Os) (started : os.Started) (H : Type) (enc : TypeId × Value → H) :
    ReturnsInHanded {} Tryz.checked os 5 .any (Rows.runSameSpec.pre6 enc Tryz.prog Tryz.f5 Rows.runSameRow.domain false) (Rows.runSameSpec.post enc Tryz.prog Tryz.f5 false true false false) := by
  refine returnsInHanded_of_change (C := Tryz.checked) own started (by kernel_rfl) Tryz.func5
    (ChangeSpec.witness6 (enc := enc) (C := Tryz.checked) false ⟨#[], #[.agg #[.int .i64 0, .int .i64 0, .int .i64 0, .int .i64 0, .int .i64 0, .int .i64 0, .int .i64 0, .slice none 0 0, .slice none 0 0, .int .i64 0], .agg #[.int .i64 0, .int .i64 0, .int .i64 0, .int .i64 0, .int .i64 0, .int .i64 0, .int .i64 0, .slice none 0 0, .slice none 0 0, .int .i64 0]], []⟩ 8 (by kernel_rfl) (by kernel_rfl) (by kernel_rfl) (by kernel_rfl)) ?_
  intro W base args ds gs before hval0 hW hcnd _
  have hval : ∀ (j : Nat) t v, Tryz.f5.params[j]? = some t → args[j]? = some v → Value.okWide Tryz.prog W .any base t v := hval0
  have hW' := hW
  obtain ⟨p, q, hA0, hV, rfl, hfz, hnd⟩ := hW
  have hA : DataW.TrodAll enc Tryz.prog W 0 (fun _ => true) true Tryz.f5.params.toList args.toList ds p := hA0
  rw [Tryz.params5] at hA hval
  obtain ⟨v0, vs0, d0, ds0, p0, q0, hargs, rfl, rfl, h0, r0⟩ := trodAll_cons hA
  obtain ⟨v1, vs1, d1, ds1, p1, q1, rfl, rfl, rfl, h1, r1⟩ := trodAll_cons r0
  obtain ⟨rfl, rfl, rfl⟩ := trodAll_nil r1
  obtain rfl : args = #[v0, v1] := by cases args; simp_all
  obtain ⟨rfl, rfl⟩ := trodVars_none hV
  obtain ⟨y0, rel0, wf0⟩ := open_agg Tryz.underlying42 (by kernel_rfl) (hval 0 42 v0 rfl rfl) h0
  obtain ⟨a0, e0, w0⟩ := dec_42 _ wf0
  subst e0
  obtain ⟨y1, rel1, wf1⟩ := open_agg Tryz.underlying42 (by kernel_rfl) (hval 1 42 v1 rfl rfl) h1
  obtain ⟨a1, e1, w1⟩ := dec_42 _ wf1
  subst e1
  clear hA0 hval0
  refine (law_of (told a0 a1 w0 w1) W (.cons rel0 (.cons rel1 .nil))).mono fun e W' ⟨he, bel⟩ => ?_
  subst he
  exact ⟨_, rfl, _, _, _, [], _, [], hW', trodAll_mk1 (shut_bool Tryz.underlying4 _), (trodAll_cons_mk (keep_arg laid (by kernel_rfl) (of_decide_eq_true (by kernel_rfl)) h0 bel) (trodAll_cons_mk (keep_arg laid (by kernel_rfl) (of_decide_eq_true (by kernel_rfl)) h1 bel) trodAll_mk0)), rfl, bel.frame _, fun h => by cases h⟩

theorem over : Rows.runSameRow.holds Tryz.pinned (OpenSpec.ofChange Rows.runSameSpec) :=
  OpenClaim.holds_of_wide 5 Tryz.f5 rfl rfl rfl rfl rfl rfl rfl ⟨rfl, rfl, rfl, rfl, rfl⟩ rfl rfl rfl rfl rfl (by kernel_rfl) Tryz.func5 (by kernel_rfl)
    (of_decide_eq_true (by kernel_rfl)) (by unfold Func.isWrapper; first | (rw [if_pos (by decide +kernel)]; kernel_rfl) | (rw [if_neg (by decide +kernel)]; exact ⟨rfl, rfl⟩))
    (fun os started H enc _ => lifted os started H enc)

theorem proved : Rows.RunSameSaid := over
#print axioms proved
end Go.Proofs.YtholdfpblliiiaaGreat.runSame
