/- event.Put has the bytes of any events (of at most 300) as the reference says; got by event.Get, they are these, if they may be a run's. -/
import Derived.Test.YthjalpodmnagnaaPEvent2
import Derived.Test.YthjalpodmnagnaaGEvC
import Derived.Test.YthjalpodmnagnaaAbOpen
import Derived.Test.YthjalpodmnagnaaRows
import Derived.WalkKit
import Derived.ProofKit
import Derived.OpenShut
import Derived.ShutString
import Derived.ChangeOld
import Derived.Below
namespace Go.Proofs.Ythjalpodmnagnaa.eventBack
open Go.ChangeShapes Go.WideShapes Go.ChangeAt Go.RowKit Go.Ab
open Go.ChangeMaps (open_string shut_string)
set_option linter.unusedVariables false

theorem own : ownKnob Try.prog.godebug = none := by kernel_rfl
theorem laid : laidOutB Try.prog = true := by kernel_rfl

def ok_104 (x : T_api_Event) : Prop := (fun n : Int => IntKind.i64.min ≤ n ∧ n ≤ IntKind.i64.max) x.Kind ∧ (fun n : Int => IntKind.i64.min ≤ n ∧ n ≤ IntKind.i64.max) x.N
theorem dec_104 : DecT Try.prog 104 T_api_Event.enc ok_104 := by
  intro ds h
  have hl := h.len Try.underlying104 2 (by kernel_rfl)
  match ds, hl, h with
  | [c0, c1], _, h =>
    obtain ⟨x0, e0, k0⟩ := (decInt Try.underlying3) _ (h.fieldAt Try.underlying104 0 3 0 1 (by kernel_rfl))
    replace e0 : [c0] = (eInt .i64) x0 := e0
    obtain ⟨x1, e1, k1⟩ := (decInt Try.underlying3) _ (h.fieldAt Try.underlying104 1 3 1 1 (by kernel_rfl))
    replace e1 : [c1] = (eInt .i64) x1 := e1
    simp only [List.cons.injEq, and_true] at e0
    obtain rfl := e0
    simp only [List.cons.injEq, and_true] at e1
    obtain rfl := e1
    exact ⟨⟨x0, x1⟩, rfl, k0, k1⟩

theorem told (a0 : (List T_api_Event)) (k0 : (fun l : (List T_api_Event) => l.length ≤ maxLen ∧ ∀ x ∈ l, ok_104 x) a0) : FnOK Try.prog 9 [lv T_api_Event.enc a0] [] (bo true) [] [] :=
  C_retracelaw31_EventBack a0 true (law_eback a0 (fun x h => ⟨(k0.2 x h).1, (k0.2 x h).2⟩))

set_option maxRecDepth 100000 in
theorem lifted (os : Os) (started : os.Started) (H : Type) (enc : TypeId × Value → H) :
    ReturnsInHanded {} Try.checked os 9 .any (Rows.eventBackSpec.pre6 enc Try.prog Try.f9 Rows.eventBackRow.domain false) (Rows.eventBackSpec.post enc Try.prog Try.f9 false true false false) := by
  refine returnsInHanded_of_change (C := Try.checked) own started (by kernel_rfl) Try.func9
    (ChangeSpec.witness6 (enc := enc) (C := Try.checked) false ⟨#[], #[.slice none 0 0], []⟩ 8 (by kernel_rfl) (by kernel_rfl) (by kernel_rfl) (by kernel_rfl)) ?_
  intro W base args ds gs before hval0 hW hcnd _
  have hval : ∀ (j : Nat) t v, Try.f9.params[j]? = some t → args[j]? = some v → Value.okWide Try.prog W .any base t v := hval0
  have hW' := hW
  obtain ⟨p, q, hA0, hV, rfl, hfz, hnd⟩ := hW
  have hA : DataW.TrodAll enc Try.prog W 0 (fun _ => true) true Try.f9.params.toList args.toList ds p := hA0
  rw [Try.params9] at hA hval
  obtain ⟨v0, vs0, d0, ds0, p0, q0, hargs, rfl, rfl, h0, r0⟩ := trodAll_cons hA
  obtain ⟨rfl, rfl, rfl⟩ := trodAll_nil r0
  obtain rfl : args = #[v0] := by cases args; simp_all
  obtain ⟨rfl, rfl⟩ := trodVars_none hV
  obtain ⟨y0, rel0, wf0⟩ := open_sl Try.underlying48 (by kernel_rfl) (hval 0 48 v0 rfl rfl) h0
  obtain ⟨a0, e0, w0⟩ := (decList Try.underlying48 dec_104) _ wf0
  simp only [List.cons.injEq, and_true] at e0; subst e0
  clear hA0 hval0
  refine (law_of (told a0 w0) W (.cons rel0 .nil)).mono fun e W' ⟨he, bel⟩ => ?_
  subst he
  exact ⟨_, rfl, _, _, _, [], _, [], hW', trodAll_mk1 (shut_bool Try.underlying4 _), (trodAll_cons_mk (keep_arg laid (by kernel_rfl) (of_decide_eq_true (by kernel_rfl)) h0 bel) trodAll_mk0), rfl, bel.frame _, fun h => by cases h⟩

theorem over : Rows.eventBackRow.holds Try.pinned (OpenSpec.ofChange Rows.eventBackSpec) :=
  OpenClaim.holds_of_wide 9 Try.f9 rfl rfl rfl rfl rfl rfl rfl ⟨rfl, rfl, rfl, rfl, rfl⟩ rfl rfl rfl rfl rfl (by kernel_rfl) Try.func9 (by kernel_rfl)
    (of_decide_eq_true (by kernel_rfl)) (by unfold Func.isWrapper; first | (rw [if_pos (by decide +kernel)]; kernel_rfl) | (rw [if_neg (by decide +kernel)]; exact ⟨rfl, rfl⟩))
    (fun os started H enc _ => lifted os started H enc)

theorem proved : Rows.EventBackSaid := over
#print axioms proved
end Go.Proofs.Ythjalpodmnagnaa.eventBack
