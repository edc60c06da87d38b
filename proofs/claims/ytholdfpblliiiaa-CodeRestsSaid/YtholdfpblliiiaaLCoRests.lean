/- In code that may be one settles from each target, and from behind each statement, in the same routine, at no InJump. -/
import Derived.Test.YtholdfpblliiiaaGQC
import Derived.Test.YtholdfpblliiiaaQJ
import Derived.Test.YtholdfpblliiiaaAbOpen
import Derived.Test.YtholdfpblliiiaaRows
import Derived.WalkKit
import Derived.ProofKit
import Derived.OpenShut
import Derived.ShutString
import Derived.ChangeOld
import Derived.Below
namespace Go.Proofs.Ytholdfpblliiiaa.codeRests
open Go.ChangeShapes Go.WideShapes Go.ChangeAt Go.RowKit Go.Ab
open Go.ChangeMaps (open_string shut_string)
set_option linter.unusedVariables false

theorem own : ownKnob Try.prog.godebug = none := by kernel_rfl
theorem laid : laidOutB Try.prog = true := by kernel_rfl

def ok_35 (x : T_api_Ins) : Prop := (fun n : Int => IntKind.i64.min ≤ n ∧ n ≤ IntKind.i64.max) x.Op ∧ (fun n : Int => IntKind.i64.min ≤ n ∧ n ≤ IntKind.i64.max) x.A ∧ (fun n : Int => IntKind.i64.min ≤ n ∧ n ≤ IntKind.i64.max) x.B
theorem dec_35 : DecT Try.prog 35 T_api_Ins.enc ok_35 := by
  intro ds h
  have hl := h.len Try.underlying35 3 (by kernel_rfl)
  match ds, hl, h with
  | [c0, c1, c2], _, h =>
    obtain ⟨x0, e0, k0⟩ := (decInt Try.underlying3) _ (h.fieldAt Try.underlying35 0 3 0 1 (by kernel_rfl))
    replace e0 : [c0] = (eInt .i64) x0 := e0
    obtain ⟨x1, e1, k1⟩ := (decInt Try.underlying3) _ (h.fieldAt Try.underlying35 1 3 1 1 (by kernel_rfl))
    replace e1 : [c1] = (eInt .i64) x1 := e1
    obtain ⟨x2, e2, k2⟩ := (decInt Try.underlying3) _ (h.fieldAt Try.underlying35 2 3 2 1 (by kernel_rfl))
    replace e2 : [c2] = (eInt .i64) x2 := e2
    simp only [List.cons.injEq, and_true] at e0
    obtain rfl := e0
    simp only [List.cons.injEq, and_true] at e1
    obtain rfl := e1
    simp only [List.cons.injEq, and_true] at e2
    obtain rfl := e2
    exact ⟨⟨x0, x1, x2⟩, rfl, k0, k1, k2⟩
def ok_38 (x : T_api_Def) : Prop := (fun s : ByteArray => s.size ≤ maxLen) x.Name ∧ (fun n : Int => IntKind.i64.min ≤ n ∧ n ≤ IntKind.i64.max) x.Entry ∧ (fun n : Int => IntKind.i64.min ≤ n ∧ n ≤ IntKind.i64.max) x.Params ∧ (fun n : Int => IntKind.i64.min ≤ n ∧ n ≤ IntKind.i64.max) x.Vars
theorem dec_38 : DecT Try.prog 38 T_api_Def.enc ok_38 := by
  intro ds h
  have hl := h.len Try.underlying38 4 (by kernel_rfl)
  match ds, hl, h with
  | [c0, c1, c2, c3], _, h =>
    obtain ⟨x0, e0, k0⟩ := (decStr Try.underlying9) _ (h.fieldAt Try.underlying38 0 9 0 1 (by kernel_rfl))
    replace e0 : [c0] = eStr x0 := e0
    obtain ⟨x1, e1, k1⟩ := (decInt Try.underlying3) _ (h.fieldAt Try.underlying38 1 3 1 1 (by kernel_rfl))
    replace e1 : [c1] = (eInt .i64) x1 := e1
    obtain ⟨x2, e2, k2⟩ := (decInt Try.underlying3) _ (h.fieldAt Try.underlying38 2 3 2 1 (by kernel_rfl))
    replace e2 : [c2] = (eInt .i64) x2 := e2
    obtain ⟨x3, e3, k3⟩ := (decInt Try.underlying3) _ (h.fieldAt Try.underlying38 3 3 3 1 (by kernel_rfl))
    replace e3 : [c3] = (eInt .i64) x3 := e3
    simp only [List.cons.injEq, and_true] at e0
    obtain rfl := e0
    simp only [List.cons.injEq, and_true] at e1
    obtain rfl := e1
    simp only [List.cons.injEq, and_true] at e2
    obtain rfl := e2
    simp only [List.cons.injEq, and_true] at e3
    obtain rfl := e3
    exact ⟨⟨x0, x1, x2, x3⟩, rfl, k0, k1, k2, k3⟩
def ok_57 (x : T_api_Chan) : Prop := (fun s : ByteArray => s.size ≤ maxLen) x.Name ∧ (fun n : Int => IntKind.i64.min ≤ n ∧ n ≤ IntKind.i64.max) x.Base ∧ (fun n : Int => IntKind.i64.min ≤ n ∧ n ≤ IntKind.i64.max) x.Size
theorem dec_57 : DecT Try.prog 57 T_api_Chan.enc ok_57 := by
  intro ds h
  have hl := h.len Try.underlying57 3 (by kernel_rfl)
  match ds, hl, h with
  | [c0, c1, c2], _, h =>
    obtain ⟨x0, e0, k0⟩ := (decStr Try.underlying9) _ (h.fieldAt Try.underlying57 0 9 0 1 (by kernel_rfl))
    replace e0 : [c0] = eStr x0 := e0
    obtain ⟨x1, e1, k1⟩ := (decInt Try.underlying3) _ (h.fieldAt Try.underlying57 1 3 1 1 (by kernel_rfl))
    replace e1 : [c1] = (eInt .i64) x1 := e1
    obtain ⟨x2, e2, k2⟩ := (decInt Try.underlying3) _ (h.fieldAt Try.underlying57 2 3 2 1 (by kernel_rfl))
    replace e2 : [c2] = (eInt .i64) x2 := e2
    simp only [List.cons.injEq, and_true] at e0
    obtain rfl := e0
    simp only [List.cons.injEq, and_true] at e1
    obtain rfl := e1
    simp only [List.cons.injEq, and_true] at e2
    obtain rfl := e2
    exact ⟨⟨x0, x1, x2⟩, rfl, k0, k1, k2⟩
def ok_26 (x : T_api_Code) : Prop := (fun l : (List T_api_Ins) => l.length ≤ maxLen ∧ ∀ x ∈ l, ok_35 x) x.Ins ∧ (fun l : (List T_api_Def) => l.length ≤ maxLen ∧ ∀ x ∈ l, ok_38 x) x.Defs ∧ (fun l : (List T_api_Chan) => l.length ≤ maxLen ∧ ∀ x ∈ l, ok_57 x) x.Chans ∧ (fun n : Int => IntKind.i64.min ≤ n ∧ n ≤ IntKind.i64.max) x.Main ∧ (fun n : Int => IntKind.i64.min ≤ n ∧ n ≤ IntKind.i64.max) x.Stmts
theorem dec_26 : DecT Try.prog 26 T_api_Code.enc ok_26 := by
  intro ds h
  have hl := h.len Try.underlying26 5 (by kernel_rfl)
  match ds, hl, h with
  | [c0, c1, c2, c3, c4], _, h =>
    obtain ⟨x0, e0, k0⟩ := (decList Try.underlying22 dec_35) _ (h.fieldAt Try.underlying26 0 22 0 1 (by kernel_rfl))
    replace e0 : [c0] = (eList T_api_Ins.enc) x0 := e0
    obtain ⟨x1, e1, k1⟩ := (decList Try.underlying23 dec_38) _ (h.fieldAt Try.underlying26 1 23 1 1 (by kernel_rfl))
    replace e1 : [c1] = (eList T_api_Def.enc) x1 := e1
    obtain ⟨x2, e2, k2⟩ := (decList Try.underlying24 dec_57) _ (h.fieldAt Try.underlying26 2 24 2 1 (by kernel_rfl))
    replace e2 : [c2] = (eList T_api_Chan.enc) x2 := e2
    obtain ⟨x3, e3, k3⟩ := (decInt Try.underlying3) _ (h.fieldAt Try.underlying26 3 3 3 1 (by kernel_rfl))
    replace e3 : [c3] = (eInt .i64) x3 := e3
    obtain ⟨x4, e4, k4⟩ := (decInt Try.underlying3) _ (h.fieldAt Try.underlying26 4 3 4 1 (by kernel_rfl))
    replace e4 : [c4] = (eInt .i64) x4 := e4
    simp only [List.cons.injEq, and_true] at e0
    obtain rfl := e0
    simp only [List.cons.injEq, and_true] at e1
    obtain rfl := e1
    simp only [List.cons.injEq, and_true] at e2
    obtain rfl := e2
    simp only [List.cons.injEq, and_true] at e3
    obtain rfl := e3
    simp only [List.cons.injEq, and_true] at e4
    obtain rfl := e4
    exact ⟨⟨x0, x1, x2, x3, x4⟩, rfl, k0, k1, k2, k3, k4⟩

theorem told (a0 : T_api_Code) (k0 : ok_26 a0) : FnOK Try.prog 4 [.agg (T_api_Code.pvs a0)] [] (bo true) [] [] :=
  C_retracelaw20_CodeRests a0 true (law_rests a0 (fun d h => (k0.2.1.2 d h).1) (fun d h => (k0.2.2.1.2 d h).1))

set_option maxRecDepth 100000 in
theorem lifted (os : Os) (started : os.Started) (H : Type) (enc : TypeId × Value → H) :
    ReturnsInHanded {} Try.checked os 4 .any (Rows.codeRestsSpec.pre6 enc Try.prog Try.f4 Rows.codeRestsRow.domain false) (Rows.codeRestsSpec.post enc Try.prog Try.f4 false true false false) := by
  refine returnsInHanded_of_change (C := Try.checked) own started (by kernel_rfl) Try.func4
    (ChangeSpec.witness6 (enc := enc) (C := Try.checked) false ⟨#[], #[.agg #[.slice none 0 0, .slice none 0 0, .slice none 0 0, .int .i64 0, .int .i64 0]], []⟩ 8 (by kernel_rfl) (by kernel_rfl) (by kernel_rfl) (by kernel_rfl)) ?_
  intro W base args ds gs before hval0 hW hcnd _
  have hval : ∀ (j : Nat) t v, Try.f4.params[j]? = some t → args[j]? = some v → Value.okWide Try.prog W .any base t v := hval0
  have hW' := hW
  obtain ⟨p, q, hA0, hV, rfl, hfz, hnd⟩ := hW
  have hA : DataW.TrodAll enc Try.prog W 0 (fun _ => true) true Try.f4.params.toList args.toList ds p := hA0
  rw [Try.params4] at hA hval
  obtain ⟨v0, vs0, d0, ds0, p0, q0, hargs, rfl, rfl, h0, r0⟩ := trodAll_cons hA
  obtain ⟨rfl, rfl, rfl⟩ := trodAll_nil r0
  obtain rfl : args = #[v0] := by cases args; simp_all
  obtain ⟨rfl, rfl⟩ := trodVars_none hV
  obtain ⟨y0, rel0, wf0⟩ := open_agg Try.underlying26 (by kernel_rfl) (hval 0 26 v0 rfl rfl) h0
  obtain ⟨a0, e0, w0⟩ := dec_26 _ wf0
  subst e0
  clear hA0 hval0
  refine (law_of (told a0 w0) W (.cons rel0 .nil)).mono fun e W' ⟨he, bel⟩ => ?_
  subst he
  exact ⟨_, rfl, _, _, _, [], _, [], hW', trodAll_mk1 (shut_bool Try.underlying4 _), (trodAll_cons_mk (keep_arg laid (by kernel_rfl) (of_decide_eq_true (by kernel_rfl)) h0 bel) trodAll_mk0), rfl, bel.frame _, fun h => by cases h⟩

theorem over : Rows.codeRestsRow.holds Try.pinned (OpenSpec.ofChange Rows.codeRestsSpec) :=
  OpenClaim.holds_of_wide 4 Try.f4 rfl rfl rfl rfl rfl rfl rfl ⟨rfl, rfl, rfl, rfl, rfl⟩ rfl rfl rfl rfl rfl (by kernel_rfl) Try.func4 (by kernel_rfl)
    (of_decide_eq_true (by kernel_rfl)) (by unfold Func.isWrapper; first | (rw [if_pos (by decide +kernel)]; kernel_rfl) | (rw [if_neg (by decide +kernel)]; exact ⟨rfl, rfl⟩))
    (fun os started H enc _ => lifted os started H enc)

theorem proved : Rows.CodeRestsSaid := over
#print axioms proved
end Go.Proofs.Ytholdfpblliiiaa.codeRests
