/- patch.Asm tells the places and errors, and has the instructions, that the reference says, whatever is laid, labelled, aimed and bound one behind the other (of at most 100 acts). -/
import Derived.Test.YtilfkpmojnammaaPPatch2
import Derived.Test.YtilfkpmojnammaaGPC
import Derived.Test.YtilfkpmojnammaaAbOpen
import Derived.Test.YtilfkpmojnammaaRows
import Derived.WalkKit
import Derived.ProofKit
import Derived.OpenShut
import Derived.ShutString
import Derived.ChangeOld
import Derived.Below
namespace Go.Proofs.Ytilfkpmojnammaa.patchPlays
open Go.ChangeShapes Go.WideShapes Go.ChangeAt Go.RowKit Go.Ab
open Go.ChangeMaps (open_string shut_string)
set_option linter.unusedVariables false

theorem own : ownKnob Try.prog.godebug = none := by kernel_rfl
theorem laid : laidOutB Try.prog = true := by kernel_rfl

def ok_38 (x : T_api_Ins) : Prop := (fun n : Int => IntKind.i64.min ≤ n ∧ n ≤ IntKind.i64.max) x.Op ∧ (fun n : Int => IntKind.i64.min ≤ n ∧ n ≤ IntKind.i64.max) x.A ∧ (fun n : Int => IntKind.i64.min ≤ n ∧ n ≤ IntKind.i64.max) x.B
theorem dec_38 : DecT Try.prog 38 T_api_Ins.enc ok_38 := by
  intro ds h
  have hl := h.len Try.underlying38 3 (by kernel_rfl)
  match ds, hl, h with
  | [c0, c1, c2], _, h =>
    obtain ⟨x0, e0, k0⟩ := (decInt Try.underlying3) _ (h.fieldAt Try.underlying38 0 3 0 1 (by kernel_rfl))
    replace e0 : [c0] = (eInt .i64) x0 := e0
    obtain ⟨x1, e1, k1⟩ := (decInt Try.underlying3) _ (h.fieldAt Try.underlying38 1 3 1 1 (by kernel_rfl))
    replace e1 : [c1] = (eInt .i64) x1 := e1
    obtain ⟨x2, e2, k2⟩ := (decInt Try.underlying3) _ (h.fieldAt Try.underlying38 2 3 2 1 (by kernel_rfl))
    replace e2 : [c2] = (eInt .i64) x2 := e2
    simp only [List.cons.injEq, and_true] at e0
    obtain rfl := e0
    simp only [List.cons.injEq, and_true] at e1
    obtain rfl := e1
    simp only [List.cons.injEq, and_true] at e2
    obtain rfl := e2
    exact ⟨⟨x0, x1, x2⟩, rfl, k0, k1, k2⟩
def ok_40 (x : T_retraceref17_Act) : Prop := (fun n : Int => IntKind.i64.min ≤ n ∧ n ≤ IntKind.i64.max) x.Kind ∧ ok_38 x.X ∧ (fun n : Int => IntKind.i64.min ≤ n ∧ n ≤ IntKind.i64.max) x.Label
theorem dec_40 : DecT Try.prog 40 T_retraceref17_Act.enc ok_40 := by
  intro ds h
  have hl := h.len Try.underlying40 5 (by kernel_rfl)
  match ds, hl, h with
  | [c0, c1, c2, c3, c4], _, h =>
    obtain ⟨x0, e0, k0⟩ := (decInt Try.underlying3) _ (h.fieldAt Try.underlying40 0 3 0 1 (by kernel_rfl))
    replace e0 : [c0] = (eInt .i64) x0 := e0
    obtain ⟨x1, e1, k1⟩ := dec_38 _ (h.fieldAt Try.underlying40 1 38 1 3 (by kernel_rfl))
    replace e1 : [c1, c2, c3] = T_api_Ins.enc x1 := e1
    obtain ⟨x2, e2, k2⟩ := (decInt Try.underlying3) _ (h.fieldAt Try.underlying40 2 3 4 1 (by kernel_rfl))
    replace e2 : [c4] = (eInt .i64) x2 := e2
    simp only [List.cons.injEq, and_true] at e0
    obtain rfl := e0
    simp only [List.cons.injEq, and_true] at e1
    obtain ⟨rfl, rfl, rfl⟩ := e1
    simp only [List.cons.injEq, and_true] at e2
    obtain rfl := e2
    exact ⟨⟨x0, x1, x2⟩, rfl, k0, k1, k2⟩

theorem told (a0 : (List T_retraceref17_Act)) (k0 : (fun l : (List T_retraceref17_Act) => l.length ≤ maxLen ∧ ∀ x ∈ l, ok_40 x) a0) : FnOK Try.prog 6 [lv T_retraceref17_Act.enc a0] [] (bo true) [] [] :=
  C_retracelaw17_PatchPlays a0 true (law_pplays a0)

set_option maxRecDepth 100000 in
theorem lifted (os : Os) (started : os.Started) (H : Type) (enc : TypeId × Value → H) :
    ReturnsInHanded {} Try.checked os 6 .any (Rows.patchPlaysSpec.pre6 enc Try.prog Try.f6 Rows.patchPlaysRow.domain false) (Rows.patchPlaysSpec.post enc Try.prog Try.f6 false true false false) := by
  refine returnsInHanded_of_change (C := Try.checked) own started (by kernel_rfl) Try.func6
    (ChangeSpec.witness6 (enc := enc) (C := Try.checked) false ⟨#[], #[.slice none 0 0], []⟩ 8 (by kernel_rfl) (by kernel_rfl) (by kernel_rfl) (by kernel_rfl)) ?_
  intro W base args ds gs before hval0 hW hcnd _
  have hval : ∀ (j : Nat) t v, Try.f6.params[j]? = some t → args[j]? = some v → Value.okWide Try.prog W .any base t v := hval0
  have hW' := hW
  obtain ⟨p, q, hA0, hV, rfl, hfz, hnd⟩ := hW
  have hA : DataW.TrodAll enc Try.prog W 0 (fun _ => true) true Try.f6.params.toList args.toList ds p := hA0
  rw [Try.params6] at hA hval
  obtain ⟨v0, vs0, d0, ds0, p0, q0, hargs, rfl, rfl, h0, r0⟩ := trodAll_cons hA
  obtain ⟨rfl, rfl, rfl⟩ := trodAll_nil r0
  obtain rfl : args = #[v0] := by cases args; simp_all
  obtain ⟨rfl, rfl⟩ := trodVars_none hV
  obtain ⟨y0, rel0, wf0⟩ := open_sl Try.underlying31 (by kernel_rfl) (hval 0 31 v0 rfl rfl) h0
  obtain ⟨a0, e0, w0⟩ := (decList Try.underlying31 dec_40) _ wf0
  simp only [List.cons.injEq, and_true] at e0; subst e0
  clear hA0 hval0
  refine (law_of (told a0 w0) W (.cons rel0 .nil)).mono fun e W' ⟨he, bel⟩ => ?_
  subst he
  exact ⟨_, rfl, _, _, _, [], _, [], hW', trodAll_mk1 (shut_bool Try.underlying4 _), (trodAll_cons_mk (keep_arg laid (by kernel_rfl) (of_decide_eq_true (by kernel_rfl)) h0 bel) trodAll_mk0), rfl, bel.frame _, fun h => by cases h⟩

theorem over : Rows.patchPlaysRow.holds Try.pinned (OpenSpec.ofChange Rows.patchPlaysSpec) :=
  OpenClaim.holds_of_wide 6 Try.f6 rfl rfl rfl rfl rfl rfl rfl ⟨rfl, rfl, rfl, rfl, rfl⟩ rfl rfl rfl rfl rfl (by kernel_rfl) Try.func6 (by kernel_rfl)
    (of_decide_eq_true (by kernel_rfl)) (by unfold Func.isWrapper; first | (rw [if_pos (by decide +kernel)]; kernel_rfl) | (rw [if_neg (by decide +kernel)]; exact ⟨rfl, rfl⟩))
    (fun os started H enc _ => lifted os started H enc)

theorem proved : Rows.PatchPlaysSaid := over
#print axioms proved
end Go.Proofs.Ytilfkpmojnammaa.patchPlays
