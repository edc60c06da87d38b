/- salvage.Of tells what is left of any frames (at most 20, of at most 800 bytes) whose bytes stand one behind the other, with any bytes (at most 200) behind, as the reference says. -/
import Derived.Test.YtkkaknlijebppaaSAll1
import Derived.Test.YtkkaknlijebppaaGSC
import Derived.Test.YtkkaknlijebppaaAbOpen
import Derived.Test.YtkkaknlijebppaaRows
import Derived.WalkKit
import Derived.ProofKit
import Derived.OpenShut
import Derived.ShutString
import Derived.ChangeOld
import Derived.Below
namespace Go.Proofs.Ytkkaknlijebppaa.salvageFrames
open Go.ChangeShapes Go.WideShapes Go.ChangeAt Go.RowKit Go.Ab
open Go.ChangeMaps (open_string shut_string)
set_option linter.unusedVariables false

theorem own : ownKnob Try.prog.godebug = none := by kernel_rfl
theorem laid : laidOutB Try.prog = true := by kernel_rfl

def ok_39 (x : T_api_Frame) : Prop := (fun n : Int => IntKind.i64.min ≤ n ∧ n ≤ IntKind.i64.max) x.Kind ∧ (fun s : ByteArray => s.size ≤ maxLen) x.Data
theorem dec_39 : DecT Try.prog 39 T_api_Frame.enc ok_39 := by
  intro ds h
  have hl := h.len Try.underlying39 2 (by kernel_rfl)
  match ds, hl, h with
  | [c0, c1], _, h =>
    obtain ⟨x0, e0, k0⟩ := (decInt Try.underlying3) _ (h.fieldAt Try.underlying39 0 3 0 1 (by kernel_rfl))
    replace e0 : [c0] = (eInt .i64) x0 := e0
    obtain ⟨x1, e1, k1⟩ := (decStr Try.underlying9) _ (h.fieldAt Try.underlying39 1 9 1 1 (by kernel_rfl))
    replace e1 : [c1] = eStr x1 := e1
    simp only [List.cons.injEq, and_true] at e0
    obtain rfl := e0
    simp only [List.cons.injEq, and_true] at e1
    obtain rfl := e1
    exact ⟨⟨x0, x1⟩, rfl, k0, k1⟩

theorem told (a0 : (List T_api_Frame)) (a1 : ByteArray) (k0 : (fun l : (List T_api_Frame) => l.length ≤ maxLen ∧ ∀ x ∈ l, ok_39 x) a0) (k1 : (fun s : ByteArray => s.size ≤ maxLen) a1) : FnOK Try.prog 4 [lv T_api_Frame.enc a0, sv a1] [] (bo true) [] [] :=
  C_retracelaw33_SalvageFrames a0 a1 true (law_sframes a0 a1)

set_option maxRecDepth 100000 in
theorem lifted (os : Os) (started : os.Started) (H : Type) (enc : TypeId × Value → H) :
    ReturnsInHanded {} Try.checked os 4 .any (Rows.salvageFramesSpec.pre6 enc Try.prog Try.f4 Rows.salvageFramesRow.domain false) (Rows.salvageFramesSpec.post enc Try.prog Try.f4 false true false false) := by
  refine returnsInHanded_of_change (C := Try.checked) own started (by kernel_rfl) Try.func4
    (ChangeSpec.witness6 (enc := enc) (C := Try.checked) false ⟨#[], #[.slice none 0 0, .string ByteArray.empty], []⟩ 8 (by kernel_rfl) (by kernel_rfl) (by kernel_rfl) (by kernel_rfl)) ?_
  intro W base args ds gs before hval0 hW hcnd _
  have hval : ∀ (j : Nat) t v, Try.f4.params[j]? = some t → args[j]? = some v → Value.okWide Try.prog W .any base t v := hval0
  have hW' := hW
  obtain ⟨p, q, hA0, hV, rfl, hfz, hnd⟩ := hW
  have hA : DataW.TrodAll enc Try.prog W 0 (fun _ => true) true Try.f4.params.toList args.toList ds p := hA0
  rw [Try.params4] at hA hval
  obtain ⟨v0, vs0, d0, ds0, p0, q0, hargs, rfl, rfl, h0, r0⟩ := trodAll_cons hA
  obtain ⟨v1, vs1, d1, ds1, p1, q1, rfl, rfl, rfl, h1, r1⟩ := trodAll_cons r0
  obtain ⟨rfl, rfl, rfl⟩ := trodAll_nil r1
  obtain rfl : args = #[v0, v1] := by cases args; simp_all
  obtain ⟨rfl, rfl⟩ := trodVars_none hV
  obtain ⟨y0, rel0, wf0⟩ := open_sl Try.underlying36 (by kernel_rfl) (hval 0 36 v0 rfl rfl) h0
  obtain ⟨a0, e0, w0⟩ := (decList Try.underlying36 dec_39) _ wf0
  simp only [List.cons.injEq, and_true] at e0; subst e0
  obtain ⟨a1, rfl, rfl, rfl, w1⟩ := open_string Try.underlying9 (hval 1 9 v1 rfl rfl) h1
  clear hA0 hval0
  refine (law_of (told a0 a1 w0 w1) W (.cons rel0 (.cons (.d (.str _)) .nil))).mono fun e W' ⟨he, bel⟩ => ?_
  subst he
  exact ⟨_, rfl, _, _, _, [], _, [], hW', trodAll_mk1 (shut_bool Try.underlying4 _), (trodAll_cons_mk (keep_arg laid (by kernel_rfl) (of_decide_eq_true (by kernel_rfl)) h0 bel) (trodAll_cons_mk (shut_string Try.underlying9 w1) trodAll_mk0)), rfl, bel.frame _, fun h => by cases h⟩

theorem over : Rows.salvageFramesRow.holds Try.pinned (OpenSpec.ofChange Rows.salvageFramesSpec) :=
  OpenClaim.holds_of_wide 4 Try.f4 rfl rfl rfl rfl rfl rfl rfl ⟨rfl, rfl, rfl, rfl, rfl⟩ rfl rfl rfl rfl rfl (by kernel_rfl) Try.func4 (by kernel_rfl)
    (of_decide_eq_true (by kernel_rfl)) (by unfold Func.isWrapper; first | (rw [if_pos (by decide +kernel)]; kernel_rfl) | (rw [if_neg (by decide +kernel)]; exact ⟨rfl, rfl⟩))
    (fun os started H enc _ => lifted os started H enc)

theorem proved : Rows.SalvageFramesSaid := over
#print axioms proved
end Go.Proofs.Ytkkaknlijebppaa.salvageFrames
