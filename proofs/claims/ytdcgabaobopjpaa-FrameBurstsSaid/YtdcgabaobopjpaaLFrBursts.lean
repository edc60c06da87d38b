/- If bits within 32 in a row are turned in the data and the sum of one of any frames, frame.All tells just those ahead of it (of at most 20 frames, of at most 300 bytes). -/
import Derived.Test.YtdcgabaobopjpaaPFrame8
import Derived.Test.YtdcgabaobopjpaaGDC
import Derived.Test.YtdcgabaobopjpaaAbOpen
import Derived.Test.YtdcgabaobopjpaaRows
import Derived.WalkKit
import Derived.ProofKit
import Derived.OpenShut
import Derived.ShutString
import Derived.ChangeOld
import Derived.Below
namespace Go.Proofs.Ytdcgabaobopjpaa.frameBursts
open Go.ChangeShapes Go.WideShapes Go.ChangeAt Go.RowKit Go.Ab
open Go.ChangeMaps (open_string shut_string)
set_option linter.unusedVariables false

theorem own : ownKnob Try.prog.godebug = none := by kernel_rfl
theorem laid : laidOutB Try.prog = true := by kernel_rfl

def ok_53 (x : T_api_Frame) : Prop := (fun n : Int => IntKind.i64.min ≤ n ∧ n ≤ IntKind.i64.max) x.Kind ∧ (fun s : ByteArray => s.size ≤ maxLen) x.Data
theorem dec_53 : DecT Try.prog 53 T_api_Frame.enc ok_53 := by
  intro ds h
  have hl := h.len Try.underlying53 2 (by kernel_rfl)
  match ds, hl, h with
  | [c0, c1], _, h =>
    obtain ⟨x0, e0, k0⟩ := (decInt Try.underlying3) _ (h.fieldAt Try.underlying53 0 3 0 1 (by kernel_rfl))
    replace e0 : [c0] = (eInt .i64) x0 := e0
    obtain ⟨x1, e1, k1⟩ := (decStr Try.underlying9) _ (h.fieldAt Try.underlying53 1 9 1 1 (by kernel_rfl))
    replace e1 : [c1] = eStr x1 := e1
    simp only [List.cons.injEq, and_true] at e0
    obtain rfl := e0
    simp only [List.cons.injEq, and_true] at e1
    obtain rfl := e1
    exact ⟨⟨x0, x1⟩, rfl, k0, k1⟩

theorem told (a0 : (List T_api_Frame)) (a1 : Int) (a2 : Int) (a3 : Int) (k0 : (fun l : (List T_api_Frame) => l.length ≤ maxLen ∧ ∀ x ∈ l, ok_53 x) a0) (k1 : (fun n : Int => IntKind.i64.min ≤ n ∧ n ≤ IntKind.i64.max) a1) (k2 : (fun n : Int => IntKind.i64.min ≤ n ∧ n ≤ IntKind.i64.max) a2) (k3 : (fun n : Int => IntKind.u32.min ≤ n ∧ n ≤ IntKind.u32.max) a3) : FnOK Try.prog 12 [lv T_api_Frame.enc a0, i64 a1, i64 a2, u32 a3] [] (bo true) [] [] :=
  C_retracelaw04_FrameBursts a0 a1 a2 a3 true (law_fbursts a0 a1 a2 a3 k1 k3.1 k3.2)

set_option maxRecDepth 100000 in
theorem lifted (os : Os) (started : os.Started) (H : Type) (enc : TypeId × Value → H) :
    ReturnsInHanded {} Try.checked os 12 .any (Rows.frameBurstsSpec.pre6 enc Try.prog Try.f12 Rows.frameBurstsRow.domain false) (Rows.frameBurstsSpec.post enc Try.prog Try.f12 false true false false) := by
  refine returnsInHanded_of_change (C := Try.checked) own started (by kernel_rfl) Try.func12
    (ChangeSpec.witness6 (enc := enc) (C := Try.checked) false ⟨#[], #[.slice none 0 0, .int .i64 0, .int .i64 0, .int .u32 0], []⟩ 8 (by kernel_rfl) (by kernel_rfl) (by kernel_rfl) (by kernel_rfl)) ?_
  intro W base args ds gs before hval0 hW hcnd _
  have hval : ∀ (j : Nat) t v, Try.f12.params[j]? = some t → args[j]? = some v → Value.okWide Try.prog W .any base t v := hval0
  have hW' := hW
  obtain ⟨p, q, hA0, hV, rfl, hfz, hnd⟩ := hW
  have hA : DataW.TrodAll enc Try.prog W 0 (fun _ => true) true Try.f12.params.toList args.toList ds p := hA0
  rw [Try.params12] at hA hval
  obtain ⟨v0, vs0, d0, ds0, p0, q0, hargs, rfl, rfl, h0, r0⟩ := trodAll_cons hA
  obtain ⟨v1, vs1, d1, ds1, p1, q1, rfl, rfl, rfl, h1, r1⟩ := trodAll_cons r0
  obtain ⟨v2, vs2, d2, ds2, p2, q2, rfl, rfl, rfl, h2, r2⟩ := trodAll_cons r1
  obtain ⟨v3, vs3, d3, ds3, p3, q3, rfl, rfl, rfl, h3, r3⟩ := trodAll_cons r2
  obtain ⟨rfl, rfl, rfl⟩ := trodAll_nil r3
  obtain rfl : args = #[v0, v1, v2, v3] := by cases args; simp_all
  obtain ⟨rfl, rfl⟩ := trodVars_none hV
  obtain ⟨y0, rel0, wf0⟩ := open_sl Try.underlying66 (by kernel_rfl) (hval 0 66 v0 rfl rfl) h0
  obtain ⟨a0, e0, w0⟩ := (decList Try.underlying66 dec_53) _ wf0
  simp only [List.cons.injEq, and_true] at e0; subst e0
  obtain ⟨a1, rfl, rfl, rfl, w1⟩ := open_int Try.underlying3 (hval 1 3 v1 rfl rfl) h1
  obtain ⟨a2, rfl, rfl, rfl, w2⟩ := open_int Try.underlying3 (hval 2 3 v2 rfl rfl) h2
  obtain ⟨a3, rfl, rfl, rfl, w3⟩ := open_int Try.underlying80 (hval 3 80 v3 rfl rfl) h3
  clear hA0 hval0
  refine (law_of (told a0 a1 a2 a3 w0 (lit_wf w1) (lit_wf w2) (lit_wf w3)) W (.cons rel0 (.cons (.d (.int _ _)) (.cons (.d (.int _ _)) (.cons (.d (.int _ _)) .nil))))).mono fun e W' ⟨he, bel⟩ => ?_
  subst he
  exact ⟨_, rfl, _, _, _, [], _, [], hW', trodAll_mk1 (shut_bool Try.underlying4 _), (trodAll_cons_mk (keep_arg laid (by kernel_rfl) (of_decide_eq_true (by kernel_rfl)) h0 bel) (trodAll_cons_mk (shut_int Try.underlying3 w1) (trodAll_cons_mk (shut_int Try.underlying3 w2) (trodAll_cons_mk (shut_int Try.underlying80 w3) trodAll_mk0)))), rfl, bel.frame _, fun h => by cases h⟩

theorem over : Rows.frameBurstsRow.holds Try.pinned (OpenSpec.ofChange Rows.frameBurstsSpec) :=
  OpenClaim.holds_of_wide 12 Try.f12 rfl rfl rfl rfl rfl rfl rfl ⟨rfl, rfl, rfl, rfl, rfl⟩ rfl rfl rfl rfl rfl (by kernel_rfl) Try.func12 (by kernel_rfl)
    (of_decide_eq_true (by kernel_rfl)) (by unfold Func.isWrapper; first | (rw [if_pos (by decide +kernel)]; kernel_rfl) | (rw [if_neg (by decide +kernel)]; exact ⟨rfl, rfl⟩))
    (fun os started H enc _ => lifted os started H enc)

theorem proved : Rows.FrameBurstsSaid := over
#print axioms proved
end Go.Proofs.Ytdcgabaobopjpaa.frameBursts
