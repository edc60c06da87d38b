/- trace.Get tells the trace of any frames (at most 20, of at most 800 bytes) whose bytes stand one behind the other, or what is wrong, as the reference says. -/
import Derived.Test.YtkkaknlijebppaaGreatTAll2
import Derived.Test.YtkkaknlijebppaaGreatGTC
import Derived.Test.YtkkaknlijebppaaGreatAbOpen
import Derived.Test.YtkkaknlijebppaaGreatRows
import Derived.WalkKit
import Derived.ProofKit
import Derived.OpenShut
import Derived.ShutString
import Derived.ChangeOld
import Derived.Below
namespace Go.Proofs.YtkkaknlijebppaaGreat.traceFrames
open Go.ChangeShapes Go.WideShapes Go.ChangeAt Go.RowKit Go.Ab
open Go.ChangeMaps (open_string shut_string)
set_option linter.unusedVariables false

theorem own : ownKnob Tryz.prog.godebug = none := by kernel_rfl
theorem laid : laidOutB Tryz.prog = true := by kernel_rfl

def ok_41 (x : T_api_Frame) : Prop := (fun n : Int => IntKind.i64.min ≤ n ∧ n ≤ IntKind.i64.max) x.Kind ∧ (fun s : ByteArray => s.size ≤ maxLen) x.Data
theorem dec_41 : DecT Tryz.prog 41 T_api_Frame.enc ok_41 := by
  intro ds h
  have hl := h.len Tryz.underlying41 2 (by kernel_rfl)
  match ds, hl, h with
  | [c0, c1], _, h =>
    obtain ⟨x0, e0, k0⟩ := (decInt Tryz.underlying3) _ (h.fieldAt Tryz.underlying41 0 3 0 1 (by kernel_rfl))
    replace e0 : [c0] = (eInt .i64) x0 := e0
    obtain ⟨x1, e1, k1⟩ := (decStr Tryz.underlying9) _ (h.fieldAt Tryz.underlying41 1 9 1 1 (by kernel_rfl))
    replace e1 : [c1] = eStr x1 := e1
    simp only [List.cons.injEq, and_true] at e0
    obtain rfl := e0
    simp only [List.cons.injEq, and_true] at e1
    obtain rfl := e1
    exact ⟨⟨x0, x1⟩, rfl, k0, k1⟩

theorem told (a0 : (List T_api_Frame)) (k0 : (fun l : (List T_api_Frame) => l.length ≤ maxLen ∧ ∀ x ∈ l, ok_41 x) a0) : FnOK Tryz.prog 4 [lv T_api_Frame.enc a0] [] (bo true) [] [] :=
  C_retracelaw32_TraceFrames a0 true (law_tframes a0)

set_option maxRecDepth 100000 in
theorem lifted (os : Os) (started : os.Started) (H : Type) (enc : TypeId × Value → H) :
    ReturnsInHanded {} Tryz.checked os 4 .any (Rows.traceFramesSpec.pre6 enc Tryz.prog Tryz.f4 Rows.traceFramesRow.domain false) (Rows.traceFramesSpec.post enc Tryz.prog Tryz.f4 false true false false) := by
  refine returnsInHanded_of_change (C := Tryz.checked) own started (by kernel_rfl) Tryz.func4
    (ChangeSpec.witness6 (enc := enc) (C := Tryz.checked) false ⟨#[], #[.slice none 0 0], []⟩ 8 (by kernel_rfl) (by kernel_rfl) (by kernel_rfl) (by kernel_rfl)) ?_
  intro W base args ds gs before hval0 hW hcnd _
  have hval : ∀ (j : Nat) t v, Tryz.f4.params[j]? = some t → args[j]? = some v → Value.okWide Tryz.prog W .any base t v := hval0
  have hW' := hW
  obtain ⟨p, q, hA0, hV, rfl, hfz, hnd⟩ := hW
  have hA : DataW.TrodAll enc Tryz.prog W 0 (fun _ => true) true Tryz.f4.params.toList args.toList ds p := hA0
  rw [Tryz.params4] at hA hval
  obtain ⟨v0, vs0, d0, ds0, p0, q0, hargs, rfl, rfl, h0, r0⟩ := trodAll_cons hA
  obtain ⟨rfl, rfl, rfl⟩ := trodAll_nil r0
  obtain rfl : args = #[v0] := by cases args; simp_all
  obtain ⟨rfl, rfl⟩ := trodVars_none hV
  obtain ⟨y0, rel0, wf0⟩ := open_sl Tryz.underlying38 (by kernel_rfl) (hval 0 38 v0 rfl rfl) h0
  obtain ⟨a0, e0, w0⟩ := (decList Tryz.underlying38 dec_41) _ wf0
  simp only [List.cons.injEq, and_true] at e0; subst e0
  clear hA0 hval0
  refine (law_of (told a0 w0) W (.cons rel0 .nil)).mono fun e W' ⟨he, bel⟩ => ?_
  subst he
  exact ⟨_, rfl, _, _, _, [], _, [], hW', trodAll_mk1 (shut_bool Tryz.underlying4 _), (trodAll_cons_mk (keep_arg laid (by kernel_rfl) (of_decide_eq_true (by kernel_rfl)) h0 bel) trodAll_mk0), rfl, bel.frame _, fun h => by cases h⟩

theorem over : Rows.traceFramesRow.holds Tryz.pinned (OpenSpec.ofChange Rows.traceFramesSpec) :=
  OpenClaim.holds_of_wide 4 Tryz.f4 rfl rfl rfl rfl rfl rfl rfl ⟨rfl, rfl, rfl, rfl, rfl⟩ rfl rfl rfl rfl rfl (by kernel_rfl) Tryz.func4 (by kernel_rfl)
    (of_decide_eq_true (by kernel_rfl)) (by unfold Func.isWrapper; first | (rw [if_pos (by decide +kernel)]; kernel_rfl) | (rw [if_neg (by decide +kernel)]; exact ⟨rfl, rfl⟩))
    (fun os started H enc _ => lifted os started H enc)

theorem proved : Rows.TraceFramesSaid := over
#print axioms proved
end Go.Proofs.YtkkaknlijebppaaGreat.traceFrames
