/- stack.Stack does what the reference's cuts of a list say, whatever is pushed, popped and taken one behind the other (of at most 100 acts), for any most. -/
import Derived.Test.YtilfkpmojnammaaPPlays
import Derived.Test.YtilfkpmojnammaaGSaC
import Derived.Test.YtilfkpmojnammaaAbOpen
import Derived.Test.YtilfkpmojnammaaRows
import Derived.WalkKit
import Derived.ProofKit
import Derived.OpenShut
import Derived.ShutString
import Derived.ChangeOld
import Derived.Below
namespace Go.Proofs.Ytilfkpmojnammaa.stackPlays
open Go.ChangeShapes Go.WideShapes Go.ChangeAt Go.RowKit Go.Ab
open Go.ChangeMaps (open_string shut_string)
set_option linter.unusedVariables false

theorem own : ownKnob Try.prog.godebug = none := by kernel_rfl
theorem laid : laidOutB Try.prog = true := by kernel_rfl

def ok_67 (x : T_retracelaw23_Act) : Prop := (fun n : Int => IntKind.i64.min ≤ n ∧ n ≤ IntKind.i64.max) x.Kind ∧ (fun s : ByteArray => s.size ≤ maxLen) x.X ∧ (fun n : Int => IntKind.i64.min ≤ n ∧ n ≤ IntKind.i64.max) x.N
theorem dec_67 : DecT Try.prog 67 T_retracelaw23_Act.enc ok_67 := by
  intro ds h
  have hl := h.len Try.underlying67 3 (by kernel_rfl)
  match ds, hl, h with
  | [c0, c1, c2], _, h =>
    obtain ⟨x0, e0, k0⟩ := (decInt Try.underlying3) _ (h.fieldAt Try.underlying67 0 3 0 1 (by kernel_rfl))
    replace e0 : [c0] = (eInt .i64) x0 := e0
    obtain ⟨x1, e1, k1⟩ := (decStr Try.underlying9) _ (h.fieldAt Try.underlying67 1 9 1 1 (by kernel_rfl))
    replace e1 : [c1] = eStr x1 := e1
    obtain ⟨x2, e2, k2⟩ := (decInt Try.underlying3) _ (h.fieldAt Try.underlying67 2 3 2 1 (by kernel_rfl))
    replace e2 : [c2] = (eInt .i64) x2 := e2
    simp only [List.cons.injEq, and_true] at e0
    obtain rfl := e0
    simp only [List.cons.injEq, and_true] at e1
    obtain rfl := e1
    simp only [List.cons.injEq, and_true] at e2
    obtain rfl := e2
    exact ⟨⟨x0, x1, x2⟩, rfl, k0, k1, k2⟩

theorem told (a0 : Int) (a1 : (List T_retracelaw23_Act)) (k0 : (fun n : Int => IntKind.i64.min ≤ n ∧ n ≤ IntKind.i64.max) a0) (k1 : (fun l : (List T_retracelaw23_Act) => l.length ≤ maxLen ∧ ∀ x ∈ l, ok_67 x) a1) : FnOK Try.prog 9 [i64 a0, lv T_retracelaw23_Act.enc a1] [] (bo true) [] [] :=
  C_retracelaw23_StackPlays a0 a1 true (law_plays a0 a1 k0 (fun a h => (k1.2 a h).2.2))

set_option maxRecDepth 100000 in
theorem lifted (os : Os) (started : os.Started) (H : Type) (enc : TypeId × Value → H) :
    ReturnsInHanded {} Try.checked os 9 .any (Rows.stackPlaysSpec.pre6 enc Try.prog Try.f9 Rows.stackPlaysRow.domain false) (Rows.stackPlaysSpec.post enc Try.prog Try.f9 false true false false) := by
  refine returnsInHanded_of_change (C := Try.checked) own started (by kernel_rfl) Try.func9
    (ChangeSpec.witness6 (enc := enc) (C := Try.checked) false ⟨#[], #[.int .i64 0, .slice none 0 0], []⟩ 8 (by kernel_rfl) (by kernel_rfl) (by kernel_rfl) (by kernel_rfl)) ?_
  intro W base args ds gs before hval0 hW hcnd _
  have hval : ∀ (j : Nat) t v, Try.f9.params[j]? = some t → args[j]? = some v → Value.okWide Try.prog W .any base t v := hval0
  have hW' := hW
  obtain ⟨p, q, hA0, hV, rfl, hfz, hnd⟩ := hW
  have hA : DataW.TrodAll enc Try.prog W 0 (fun _ => true) true Try.f9.params.toList args.toList ds p := hA0
  rw [Try.params9] at hA hval
  obtain ⟨v0, vs0, d0, ds0, p0, q0, hargs, rfl, rfl, h0, r0⟩ := trodAll_cons hA
  obtain ⟨v1, vs1, d1, ds1, p1, q1, rfl, rfl, rfl, h1, r1⟩ := trodAll_cons r0
  obtain ⟨rfl, rfl, rfl⟩ := trodAll_nil r1
  obtain rfl : args = #[v0, v1] := by cases args; simp_all
  obtain ⟨rfl, rfl⟩ := trodVars_none hV
  obtain ⟨a0, rfl, rfl, rfl, w0⟩ := open_int Try.underlying3 (hval 0 3 v0 rfl rfl) h0
  obtain ⟨y1, rel1, wf1⟩ := open_sl Try.underlying62 (by kernel_rfl) (hval 1 62 v1 rfl rfl) h1
  obtain ⟨a1, e1, w1⟩ := (decList Try.underlying62 dec_67) _ wf1
  simp only [List.cons.injEq, and_true] at e1; subst e1
  clear hA0 hval0
  refine (law_of (told a0 a1 (lit_wf w0) w1) W (.cons (.d (.int _ _)) (.cons rel1 .nil))).mono fun e W' ⟨he, bel⟩ => ?_
  subst he
  exact ⟨_, rfl, _, _, _, [], _, [], hW', trodAll_mk1 (shut_bool Try.underlying4 _), (trodAll_cons_mk (shut_int Try.underlying3 w0) (trodAll_cons_mk (keep_arg laid (by kernel_rfl) (of_decide_eq_true (by kernel_rfl)) h1 bel) trodAll_mk0)), rfl, bel.frame _, fun h => by cases h⟩

theorem over : Rows.stackPlaysRow.holds Try.pinned (OpenSpec.ofChange Rows.stackPlaysSpec) :=
  OpenClaim.holds_of_wide 9 Try.f9 rfl rfl rfl rfl rfl rfl rfl ⟨rfl, rfl, rfl, rfl, rfl⟩ rfl rfl rfl rfl rfl (by kernel_rfl) Try.func9 (by kernel_rfl)
    (of_decide_eq_true (by kernel_rfl)) (by unfold Func.isWrapper; first | (rw [if_pos (by decide +kernel)]; kernel_rfl) | (rw [if_neg (by decide +kernel)]; exact ⟨rfl, rfl⟩))
    (fun os started H enc _ => lifted os started H enc)

theorem proved : Rows.StackPlaysSaid := over
#print axioms proved
end Go.Proofs.Ytilfkpmojnammaa.stackPlays
