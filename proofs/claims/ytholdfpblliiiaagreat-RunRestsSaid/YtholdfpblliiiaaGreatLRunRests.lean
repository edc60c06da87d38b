/- In code that may be a statement comes to an effect, and goes on where it rests; so does each of its alternatives (of at most 150 instructions). -/
import Derived.Test.YtholdfpblliiiaaGreatRAll
import Derived.Test.YtholdfpblliiiaaGreatGT4C
import Derived.Test.YtholdfpblliiiaaGreatAbOpen
import Derived.Test.YtholdfpblliiiaaGreatRows
import Derived.WalkKit
import Derived.ProofKit
import Derived.OpenShut
import Derived.ShutString
import Derived.ChangeOld
import Derived.Below
namespace Go.Proofs.YtholdfpblliiiaaGreat.runRests
open Go.ChangeShapes Go.WideShapes Go.ChangeAt Go.RowKit Go.Ab
open Go.ChangeMaps (open_string shut_string)
set_option linter.unusedVariables false

theorem own : ownKnob Tryz.prog.godebug = none := by kernel_rfl
theorem laid : laidOutB Tryz.prog = true := by kernel_rfl

def ok_50 (x : T_api_Ins) : Prop := (fun n : Int => IntKind.i64.min ≤ n ∧ n ≤ IntKind.i64.max) x.Op ∧ (fun n : Int => IntKind.i64.min ≤ n ∧ n ≤ IntKind.i64.max) x.A ∧ (fun n : Int => IntKind.i64.min ≤ n ∧ n ≤ IntKind.i64.max) x.B
theorem dec_50 : DecT Tryz.prog 50 T_api_Ins.enc ok_50 := by
  intro ds h
  have hl := h.len Tryz.underlying50 3 (by kernel_rfl)
  match ds, hl, h with
  | [c0, c1, c2], _, h =>
    obtain ⟨x0, e0, k0⟩ := (decInt Tryz.underlying3) _ (h.fieldAt Tryz.underlying50 0 3 0 1 (by kernel_rfl))
    replace e0 : [c0] = (eInt .i64) x0 := e0
    obtain ⟨x1, e1, k1⟩ := (decInt Tryz.underlying3) _ (h.fieldAt Tryz.underlying50 1 3 1 1 (by kernel_rfl))
    replace e1 : [c1] = (eInt .i64) x1 := e1
    obtain ⟨x2, e2, k2⟩ := (decInt Tryz.underlying3) _ (h.fieldAt Tryz.underlying50 2 3 2 1 (by kernel_rfl))
    replace e2 : [c2] = (eInt .i64) x2 := e2
    simp only [List.cons.injEq, and_true] at e0
    obtain rfl := e0
    simp only [List.cons.injEq, and_true] at e1
    obtain rfl := e1
    simp only [List.cons.injEq, and_true] at e2
    obtain rfl := e2
    exact ⟨⟨x0, x1, x2⟩, rfl, k0, k1, k2⟩
def ok_52 (x : T_api_Def) : Prop := (fun s : ByteArray => s.size ≤ maxLen) x.Name ∧ (fun n : Int => IntKind.i64.min ≤ n ∧ n ≤ IntKind.i64.max) x.Entry ∧ (fun n : Int => IntKind.i64.min ≤ n ∧ n ≤ IntKind.i64.max) x.Params ∧ (fun n : Int => IntKind.i64.min ≤ n ∧ n ≤ IntKind.i64.max) x.Vars
theorem dec_52 : DecT Tryz.prog 52 T_api_Def.enc ok_52 := by
  intro ds h
  have hl := h.len Tryz.underlying52 4 (by kernel_rfl)
  match ds, hl, h with
  | [c0, c1, c2, c3], _, h =>
    obtain ⟨x0, e0, k0⟩ := (decStr Tryz.underlying9) _ (h.fieldAt Tryz.underlying52 0 9 0 1 (by kernel_rfl))
    replace e0 : [c0] = eStr x0 := e0
    obtain ⟨x1, e1, k1⟩ := (decInt Tryz.underlying3) _ (h.fieldAt Tryz.underlying52 1 3 1 1 (by kernel_rfl))
    replace e1 : [c1] = (eInt .i64) x1 := e1
    obtain ⟨x2, e2, k2⟩ := (decInt Tryz.underlying3) _ (h.fieldAt Tryz.underlying52 2 3 2 1 (by kernel_rfl))
    replace e2 : [c2] = (eInt .i64) x2 := e2
    obtain ⟨x3, e3, k3⟩ := (decInt Tryz.underlying3) _ (h.fieldAt Tryz.underlying52 3 3 3 1 (by kernel_rfl))
    replace e3 : [c3] = (eInt .i64) x3 := e3
    simp only [List.cons.injEq, and_true] at e0
    obtain rfl := e0
    simp only [List.cons.injEq, and_true] at e1
    obtain rfl := e1
    simp only [List.cons.injEq, and_true] at e2
    obtain rfl := e2
    simp only [List.cons.injEq, and_true] at e3
    obtain rfl := e3
    exact ⟨⟨x0, x1, x2, x3⟩, rfl, k0, k1, k2, k3⟩
def ok_109 (x : T_api_Chan) : Prop := (fun s : ByteArray => s.size ≤ maxLen) x.Name ∧ (fun n : Int => IntKind.i64.min ≤ n ∧ n ≤ IntKind.i64.max) x.Base ∧ (fun n : Int => IntKind.i64.min ≤ n ∧ n ≤ IntKind.i64.max) x.Size
theorem dec_109 : DecT Tryz.prog 109 T_api_Chan.enc ok_109 := by
  intro ds h
  have hl := h.len Tryz.underlying109 3 (by kernel_rfl)
  match ds, hl, h with
  | [c0, c1, c2], _, h =>
    obtain ⟨x0, e0, k0⟩ := (decStr Tryz.underlying9) _ (h.fieldAt Tryz.underlying109 0 9 0 1 (by kernel_rfl))
    replace e0 : [c0] = eStr x0 := e0
    obtain ⟨x1, e1, k1⟩ := (decInt Tryz.underlying3) _ (h.fieldAt Tryz.underlying109 1 3 1 1 (by kernel_rfl))
    replace e1 : [c1] = (eInt .i64) x1 := e1
    obtain ⟨x2, e2, k2⟩ := (decInt Tryz.underlying3) _ (h.fieldAt Tryz.underlying109 2 3 2 1 (by kernel_rfl))
    replace e2 : [c2] = (eInt .i64) x2 := e2
    simp only [List.cons.injEq, and_true] at e0
    obtain rfl := e0
    simp only [List.cons.injEq, and_true] at e1
    obtain rfl := e1
    simp only [List.cons.injEq, and_true] at e2
    obtain rfl := e2
    exact ⟨⟨x0, x1, x2⟩, rfl, k0, k1, k2⟩
def ok_27 (x : T_api_Code) : Prop := (fun l : (List T_api_Ins) => l.length ≤ maxLen ∧ ∀ x ∈ l, ok_50 x) x.Ins ∧ (fun l : (List T_api_Def) => l.length ≤ maxLen ∧ ∀ x ∈ l, ok_52 x) x.Defs ∧ (fun l : (List T_api_Chan) => l.length ≤ maxLen ∧ ∀ x ∈ l, ok_109 x) x.Chans ∧ (fun n : Int => IntKind.i64.min ≤ n ∧ n ≤ IntKind.i64.max) x.Main ∧ (fun n : Int => IntKind.i64.min ≤ n ∧ n ≤ IntKind.i64.max) x.Stmts
theorem dec_27 : DecT Tryz.prog 27 T_api_Code.enc ok_27 := by
  intro ds h
  have hl := h.len Tryz.underlying27 5 (by kernel_rfl)
  match ds, hl, h with
  | [c0, c1, c2, c3, c4], _, h =>
    obtain ⟨x0, e0, k0⟩ := (decList Tryz.underlying23 dec_50) _ (h.fieldAt Tryz.underlying27 0 23 0 1 (by kernel_rfl))
    replace e0 : [c0] = (eList T_api_Ins.enc) x0 := e0
    obtain ⟨x1, e1, k1⟩ := (decList Tryz.underlying24 dec_52) _ (h.fieldAt Tryz.underlying27 1 24 1 1 (by kernel_rfl))
    replace e1 : [c1] = (eList T_api_Def.enc) x1 := e1
    obtain ⟨x2, e2, k2⟩ := (decList Tryz.underlying25 dec_109) _ (h.fieldAt Tryz.underlying27 2 25 2 1 (by kernel_rfl))
    replace e2 : [c2] = (eList T_api_Chan.enc) x2 := e2
    obtain ⟨x3, e3, k3⟩ := (decInt Tryz.underlying3) _ (h.fieldAt Tryz.underlying27 3 3 3 1 (by kernel_rfl))
    replace e3 : [c3] = (eInt .i64) x3 := e3
    obtain ⟨x4, e4, k4⟩ := (decInt Tryz.underlying3) _ (h.fieldAt Tryz.underlying27 4 3 4 1 (by kernel_rfl))
    replace e4 : [c4] = (eInt .i64) x4 := e4
    simp only [List.cons.injEq, and_true] at e0
    obtain rfl := e0
    simp only [List.cons.injEq, and_true] at e1
    obtain rfl := e1
    simp only [List.cons.injEq, and_true] at e2
    obtain rfl := e2
    simp only [List.cons.injEq, and_true] at e3
    obtain rfl := e3
    simp only [List.cons.injEq, and_true] at e4
    obtain rfl := e4
    exact ⟨⟨x0, x1, x2, x3, x4⟩, rfl, k0, k1, k2, k3, k4⟩
def ok_47 (x : T_api_Alt) : Prop := (fun n : Int => IntKind.i64.min ≤ n ∧ n ≤ IntKind.i64.max) x.Kind ∧ (fun n : Int => IntKind.i64.min ≤ n ∧ n ≤ IntKind.i64.max) x.Chan ∧ (fun n : Int => IntKind.i64.min ≤ n ∧ n ≤ IntKind.i64.max) x.Val ∧ (fun n : Int => IntKind.i64.min ≤ n ∧ n ≤ IntKind.i64.max) x.Slot ∧ (fun n : Int => IntKind.i64.min ≤ n ∧ n ≤ IntKind.i64.max) x.Goto
theorem dec_47 : DecT Tryz.prog 47 T_api_Alt.enc ok_47 := by
  intro ds h
  have hl := h.len Tryz.underlying47 5 (by kernel_rfl)
  match ds, hl, h with
  | [c0, c1, c2, c3, c4], _, h =>
    obtain ⟨x0, e0, k0⟩ := (decInt Tryz.underlying3) _ (h.fieldAt Tryz.underlying47 0 3 0 1 (by kernel_rfl))
    replace e0 : [c0] = (eInt .i64) x0 := e0
    obtain ⟨x1, e1, k1⟩ := (decInt Tryz.underlying3) _ (h.fieldAt Tryz.underlying47 1 3 1 1 (by kernel_rfl))
    replace e1 : [c1] = (eInt .i64) x1 := e1
    obtain ⟨x2, e2, k2⟩ := (decInt Tryz.underlying3) _ (h.fieldAt Tryz.underlying47 2 3 2 1 (by kernel_rfl))
    replace e2 : [c2] = (eInt .i64) x2 := e2
    obtain ⟨x3, e3, k3⟩ := (decInt Tryz.underlying3) _ (h.fieldAt Tryz.underlying47 3 3 3 1 (by kernel_rfl))
    replace e3 : [c3] = (eInt .i64) x3 := e3
    obtain ⟨x4, e4, k4⟩ := (decInt Tryz.underlying3) _ (h.fieldAt Tryz.underlying47 4 3 4 1 (by kernel_rfl))
    replace e4 : [c4] = (eInt .i64) x4 := e4
    simp only [List.cons.injEq, and_true] at e0
    obtain rfl := e0
    simp only [List.cons.injEq, and_true] at e1
    obtain rfl := e1
    simp only [List.cons.injEq, and_true] at e2
    obtain rfl := e2
    simp only [List.cons.injEq, and_true] at e3
    obtain rfl := e3
    simp only [List.cons.injEq, and_true] at e4
    obtain rfl := e4
    exact ⟨⟨x0, x1, x2, x3, x4⟩, rfl, k0, k1, k2, k3, k4⟩
def ok_38 (x : T_api_Proc) : Prop := (fun n : Int => IntKind.i64.min ≤ n ∧ n ≤ IntKind.i64.max) x.Def ∧ (fun n : Int => IntKind.i64.min ≤ n ∧ n ≤ IntKind.i64.max) x.At ∧ (fun l : (List Int) => l.length ≤ maxLen ∧ ∀ x ∈ l, (fun n : Int => IntKind.i64.min ≤ n ∧ n ≤ IntKind.i64.max) x) x.Vars ∧ (fun n : Int => IntKind.i64.min ≤ n ∧ n ≤ IntKind.i64.max) x.Fuel ∧ (fun n : Int => IntKind.i64.min ≤ n ∧ n ≤ IntKind.i64.max) x.Mode ∧ (fun n : Int => IntKind.i64.min ≤ n ∧ n ≤ IntKind.i64.max) x.Chan ∧ (fun n : Int => IntKind.i64.min ≤ n ∧ n ≤ IntKind.i64.max) x.Val ∧ (fun n : Int => IntKind.i64.min ≤ n ∧ n ≤ IntKind.i64.max) x.Slot ∧ (fun n : Int => IntKind.i64.min ≤ n ∧ n ≤ IntKind.i64.max) x.Until ∧ (fun n : Int => IntKind.i64.min ≤ n ∧ n ≤ IntKind.i64.max) x.Since ∧ (fun l : (List T_api_Alt) => l.length ≤ maxLen ∧ ∀ x ∈ l, ok_47 x) x.Alts
theorem dec_38 : DecT Tryz.prog 38 T_api_Proc.enc ok_38 := by
  intro ds h
  have hl := h.len Tryz.underlying38 11 (by kernel_rfl)
  match ds, hl, h with
  | [c0, c1, c2, c3, c4, c5, c6, c7, c8, c9, c10], _, h =>
    obtain ⟨x0, e0, k0⟩ := (decInt Tryz.underlying3) _ (h.fieldAt Tryz.underlying38 0 3 0 1 (by kernel_rfl))
    replace e0 : [c0] = (eInt .i64) x0 := e0
    obtain ⟨x1, e1, k1⟩ := (decInt Tryz.underlying3) _ (h.fieldAt Tryz.underlying38 1 3 1 1 (by kernel_rfl))
    replace e1 : [c1] = (eInt .i64) x1 := e1
    obtain ⟨x2, e2, k2⟩ := (decList Tryz.underlying35 (decInt Tryz.underlying3)) _ (h.fieldAt Tryz.underlying38 2 35 2 1 (by kernel_rfl))
    replace e2 : [c2] = (eList (eInt .i64)) x2 := e2
    obtain ⟨x3, e3, k3⟩ := (decInt Tryz.underlying3) _ (h.fieldAt Tryz.underlying38 3 3 3 1 (by kernel_rfl))
    replace e3 : [c3] = (eInt .i64) x3 := e3
    obtain ⟨x4, e4, k4⟩ := (decInt Tryz.underlying3) _ (h.fieldAt Tryz.underlying38 4 3 4 1 (by kernel_rfl))
    replace e4 : [c4] = (eInt .i64) x4 := e4
    obtain ⟨x5, e5, k5⟩ := (decInt Tryz.underlying3) _ (h.fieldAt Tryz.underlying38 5 3 5 1 (by kernel_rfl))
    replace e5 : [c5] = (eInt .i64) x5 := e5
    obtain ⟨x6, e6, k6⟩ := (decInt Tryz.underlying3) _ (h.fieldAt Tryz.underlying38 6 3 6 1 (by kernel_rfl))
    replace e6 : [c6] = (eInt .i64) x6 := e6
    obtain ⟨x7, e7, k7⟩ := (decInt Tryz.underlying3) _ (h.fieldAt Tryz.underlying38 7 3 7 1 (by kernel_rfl))
    replace e7 : [c7] = (eInt .i64) x7 := e7
    obtain ⟨x8, e8, k8⟩ := (decInt Tryz.underlying3) _ (h.fieldAt Tryz.underlying38 8 3 8 1 (by kernel_rfl))
    replace e8 : [c8] = (eInt .i64) x8 := e8
    obtain ⟨x9, e9, k9⟩ := (decInt Tryz.underlying3) _ (h.fieldAt Tryz.underlying38 9 3 9 1 (by kernel_rfl))
    replace e9 : [c9] = (eInt .i64) x9 := e9
    obtain ⟨x10, e10, k10⟩ := (decList Tryz.underlying36 dec_47) _ (h.fieldAt Tryz.underlying38 10 36 10 1 (by kernel_rfl))
    replace e10 : [c10] = (eList T_api_Alt.enc) x10 := e10
    simp only [List.cons.injEq, and_true] at e0
    obtain rfl := e0
    simp only [List.cons.injEq, and_true] at e1
    obtain rfl := e1
    simp only [List.cons.injEq, and_true] at e2
    obtain rfl := e2
    simp only [List.cons.injEq, and_true] at e3
    obtain rfl := e3
    simp only [List.cons.injEq, and_true] at e4
    obtain rfl := e4
    simp only [List.cons.injEq, and_true] at e5
    obtain rfl := e5
    simp only [List.cons.injEq, and_true] at e6
    obtain rfl := e6
    simp only [List.cons.injEq, and_true] at e7
    obtain rfl := e7
    simp only [List.cons.injEq, and_true] at e8
    obtain rfl := e8
    simp only [List.cons.injEq, and_true] at e9
    obtain rfl := e9
    simp only [List.cons.injEq, and_true] at e10
    obtain rfl := e10
    exact ⟨⟨x0, x1, x2, x3, x4, x5, x6, x7, x8, x9, x10⟩, rfl, k0, k1, k2, k3, k4, k5, k6, k7, k8, k9, k10⟩

theorem told (a0 : T_api_Code) (a1 : T_api_Proc) (k0 : ok_27 a0) (k1 : ok_38 a1) : FnOK Tryz.prog 4 [.agg (T_api_Code.pvs a0), .agg (T_api_Proc.pvs a1)] [] (bo true) [] [] :=
  C_retracelaw24_RunRests a0 a1 true (law_runRests a0 a1 (fun d h => (k0.2.1.2 d h).1) (fun d h => (k0.2.2.1.2 d h).1) (fun x h => (k0.1.2 x h).2.2.2))

set_option maxRecDepth 100000 in
theorem lifted (os : Os) (started : os.Started) (H : Type) (enc : TypeId × Value → H) :
    ReturnsInHanded {} Tryz.checked os 4 .any (Rows.runRestsSpec.pre6 enc Tryz.prog Tryz.f4 Rows.runRestsRow.domain false) (Rows.runRestsSpec.post enc Tryz.prog Tryz.f4 false true false false) := by
  refine returnsInHanded_of_change (C := Tryz.checked) own started (by kernel_rfl) Tryz.func4
    (ChangeSpec.witness6 (enc := enc) (C := Tryz.checked) false ⟨#[], #[.agg #[.slice none 0 0, .slice none 0 0, .slice none 0 0, .int .i64 0, .int .i64 0], .agg #[.int .i64 0, .int .i64 0, .slice none 0 0, .int .i64 0, .int .i64 0, .int .i64 0, .int .i64 0, .int .i64 0, .int .i64 0, .int .i64 0, .slice none 0 0]], []⟩ 8 (by kernel_rfl) (by kernel_rfl) (by kernel_rfl) (by kernel_rfl)) ?_
  intro W base args ds gs before hval0 hW hcnd _
  have hval : ∀ (j : Nat) t v, Tryz.f4.params[j]? = some t → args[j]? = some v → Value.okWide Tryz.prog W .any base t v := hval0
  have hW' := hW
  obtain ⟨p, q, hA0, hV, rfl, hfz, hnd⟩ := hW
  have hA : DataW.TrodAll enc Tryz.prog W 0 (fun _ => true) true Tryz.f4.params.toList args.toList ds p := hA0
  rw [Tryz.params4] at hA hval
  obtain ⟨v0, vs0, d0, ds0, p0, q0, hargs, rfl, rfl, h0, r0⟩ := trodAll_cons hA
  obtain ⟨v1, vs1, d1, ds1, p1, q1, rfl, rfl, rfl, h1, r1⟩ := trodAll_cons r0
  obtain ⟨rfl, rfl, rfl⟩ := trodAll_nil r1
  obtain rfl : args = #[v0, v1] := by cases args; simp_all
  obtain ⟨rfl, rfl⟩ := trodVars_none hV
  obtain ⟨y0, rel0, wf0⟩ := open_agg Tryz.underlying27 (by kernel_rfl) (hval 0 27 v0 rfl rfl) h0
  obtain ⟨a0, e0, w0⟩ := dec_27 _ wf0
  subst e0
  obtain ⟨y1, rel1, wf1⟩ := open_agg Tryz.underlying38 (by kernel_rfl) (hval 1 38 v1 rfl rfl) h1
  obtain ⟨a1, e1, w1⟩ := dec_38 _ wf1
  subst e1
  clear hA0 hval0
  refine (law_of (told a0 a1 w0 w1) W (.cons rel0 (.cons rel1 .nil))).mono fun e W' ⟨he, bel⟩ => ?_
  subst he
  exact ⟨_, rfl, _, _, _, [], _, [], hW', trodAll_mk1 (shut_bool Tryz.underlying4 _), (trodAll_cons_mk (keep_arg laid (by kernel_rfl) (of_decide_eq_true (by kernel_rfl)) h0 bel) (trodAll_cons_mk (keep_arg laid (by kernel_rfl) (of_decide_eq_true (by kernel_rfl)) h1 bel) trodAll_mk0)), rfl, bel.frame _, fun h => by cases h⟩

theorem over : Rows.runRestsRow.holds Tryz.pinned (OpenSpec.ofChange Rows.runRestsSpec) :=
  OpenClaim.holds_of_wide 4 Tryz.f4 rfl rfl rfl rfl rfl rfl rfl ⟨rfl, rfl, rfl, rfl, rfl⟩ rfl rfl rfl rfl rfl (by kernel_rfl) Tryz.func4 (by kernel_rfl)
    (of_decide_eq_true (by kernel_rfl)) (by unfold Func.isWrapper; first | (rw [if_pos (by decide +kernel)]; kernel_rfl) | (rw [if_neg (by decide +kernel)]; exact ⟨rfl, rfl⟩))
    (fun os started H enc _ => lifted os started H enc)

theorem proved : Rows.RunRestsSaid := over
#print axioms proved
end Go.Proofs.YtholdfpblliiiaaGreat.runRests
