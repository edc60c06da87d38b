/- A nil wire.Reader reads nothing, and one that failed reads nothing any more (of at most 600 bytes). -/
import Derived.Test.YtdcgabaobopjpaaPWire3
import Derived.Test.YtdcgabaobopjpaaGDC
import Derived.Test.YtdcgabaobopjpaaAbOpen
import Derived.Test.YtdcgabaobopjpaaRows
import Derived.WalkKit
import Derived.ProofKit
import Derived.OpenShut
import Derived.ShutString
import Derived.ChangeOld
import Derived.Below
namespace Go.Proofs.Ytdcgabaobopjpaa.wireNone
open Go.ChangeShapes Go.WideShapes Go.ChangeAt Go.RowKit Go.Ab
open Go.ChangeMaps (open_string shut_string)
set_option linter.unusedVariables false

theorem own : ownKnob Try.prog.godebug = none := by kernel_rfl
theorem laid : laidOutB Try.prog = true := by kernel_rfl

def ok_33 (x : T_retracelaw03_Part) : Prop := (fun n : Int => IntKind.i64.min ≤ n ∧ n ≤ IntKind.i64.max) x.Kind ∧ (fun n : Int => IntKind.u64.min ≤ n ∧ n ≤ IntKind.u64.max) x.U ∧ (fun n : Int => IntKind.i64.min ≤ n ∧ n ≤ IntKind.i64.max) x.N ∧ (fun _ : Bool => True) x.B ∧ (fun s : ByteArray => s.size ≤ maxLen) x.S ∧ (fun l : (List Int) => l.length ≤ maxLen ∧ ∀ x ∈ l, (fun n : Int => IntKind.i64.min ≤ n ∧ n ≤ IntKind.i64.max) x) x.L
theorem dec_33 : DecT Try.prog 33 T_retracelaw03_Part.enc ok_33 := by
  intro ds h
  have hl := h.len Try.underlying33 6 (by kernel_rfl)
  match ds, hl, h with
  | [c0, c1, c2, c3, c4, c5], _, h =>
    obtain ⟨x0, e0, k0⟩ := (decInt Try.underlying3) _ (h.fieldAt Try.underlying33 0 3 0 1 (by kernel_rfl))
    replace e0 : [c0] = (eInt .i64) x0 := e0
    obtain ⟨x1, e1, k1⟩ := (decInt Try.underlying30) _ (h.fieldAt Try.underlying33 1 30 1 1 (by kernel_rfl))
    replace e1 : [c1] = (eInt .u64) x1 := e1
    obtain ⟨x2, e2, k2⟩ := (decInt Try.underlying3) _ (h.fieldAt Try.underlying33 2 3 2 1 (by kernel_rfl))
    replace e2 : [c2] = (eInt .i64) x2 := e2
    obtain ⟨x3, e3, k3⟩ := (decBool Try.underlying4) _ (h.fieldAt Try.underlying33 3 4 3 1 (by kernel_rfl))
    replace e3 : [c3] = eBool x3 := e3
    obtain ⟨x4, e4, k4⟩ := (decStr Try.underlying9) _ (h.fieldAt Try.underlying33 4 9 4 1 (by kernel_rfl))
    replace e4 : [c4] = eStr x4 := e4
    obtain ⟨x5, e5, k5⟩ := (decList Try.underlying31 (decInt Try.underlying3)) _ (h.fieldAt Try.underlying33 5 31 5 1 (by kernel_rfl))
    replace e5 : [c5] = (eList (eInt .i64)) x5 := e5
    simp only [List.cons.injEq, and_true] at e0
    obtain rfl := e0
    simp only [List.cons.injEq, and_true] at e1
    obtain rfl := e1
    simp only [List.cons.injEq, and_true] at e2
    obtain rfl := e2
    simp only [List.cons.injEq, and_true] at e3
    obtain rfl := e3
    simp only [List.cons.injEq, and_true] at e4
    obtain rfl := e4
    simp only [List.cons.injEq, and_true] at e5
    obtain rfl := e5
    exact ⟨⟨x0, x1, x2, x3, x4, x5⟩, rfl, k0, k1, k2, k3, k4, k5⟩

theorem told (a0 : ByteArray) (a1 : T_retracelaw03_Part) (a2 : T_retracelaw03_Part) (k0 : (fun s : ByteArray => s.size ≤ maxLen) a0) (k1 : ok_33 a1) (k2 : ok_33 a2) : FnOK Try.prog 5 [sv a0, .agg (T_retracelaw03_Part.pvs a1), .agg (T_retracelaw03_Part.pvs a2)] [] (bo true) [] [] :=
  C_retracelaw03_WireNone a0 a1 a2 true (law_wnone a0 a1 a2 ⟨k1.2.1, k1.2.2.1, k1.2.2.2.2.2.2⟩ ⟨k2.2.1, k2.2.2.1, k2.2.2.2.2.2.2⟩)

set_option maxRecDepth 100000 in
theorem lifted (os : Os) (started : os.Started) (H : Type) (enc : TypeId × Value → H) :
    ReturnsInHanded {} Try.checked os 5 .any (Rows.wireNoneSpec.pre6 enc Try.prog Try.f5 Rows.wireNoneRow.domain false) (Rows.wireNoneSpec.post enc Try.prog Try.f5 false true false false) := by
  refine returnsInHanded_of_change (C := Try.checked) own started (by kernel_rfl) Try.func5
    (ChangeSpec.witness6 (enc := enc) (C := Try.checked) false ⟨#[], #[.string ByteArray.empty, .agg #[.int .i64 0, .int .u64 0, .int .i64 0, .bool false, .string ByteArray.empty, .slice none 0 0], .agg #[.int .i64 0, .int .u64 0, .int .i64 0, .bool false, .string ByteArray.empty, .slice none 0 0]], []⟩ 8 (by kernel_rfl) (by kernel_rfl) (by kernel_rfl) (by kernel_rfl)) ?_
  intro W base args ds gs before hval0 hW hcnd _
  have hval : ∀ (j : Nat) t v, Try.f5.params[j]? = some t → args[j]? = some v → Value.okWide Try.prog W .any base t v := hval0
  have hW' := hW
  obtain ⟨p, q, hA0, hV, rfl, hfz, hnd⟩ := hW
  have hA : DataW.TrodAll enc Try.prog W 0 (fun _ => true) true Try.f5.params.toList args.toList ds p := hA0
  rw [Try.params5] at hA hval
  obtain ⟨v0, vs0, d0, ds0, p0, q0, hargs, rfl, rfl, h0, r0⟩ := trodAll_cons hA
  obtain ⟨v1, vs1, d1, ds1, p1, q1, rfl, rfl, rfl, h1, r1⟩ := trodAll_cons r0
  obtain ⟨v2, vs2, d2, ds2, p2, q2, rfl, rfl, rfl, h2, r2⟩ := trodAll_cons r1
  obtain ⟨rfl, rfl, rfl⟩ := trodAll_nil r2
  obtain rfl : args = #[v0, v1, v2] := by cases args; simp_all
  obtain ⟨rfl, rfl⟩ := trodVars_none hV
  obtain ⟨a0, rfl, rfl, rfl, w0⟩ := open_string Try.underlying9 (hval 0 9 v0 rfl rfl) h0
  obtain ⟨y1, rel1, wf1⟩ := open_agg Try.underlying33 (by kernel_rfl) (hval 1 33 v1 rfl rfl) h1
  obtain ⟨a1, e1, w1⟩ := dec_33 _ wf1
  subst e1
  obtain ⟨y2, rel2, wf2⟩ := open_agg Try.underlying33 (by kernel_rfl) (hval 2 33 v2 rfl rfl) h2
  obtain ⟨a2, e2, w2⟩ := dec_33 _ wf2
  subst e2
  clear hA0 hval0
  refine (law_of (told a0 a1 a2 w0 w1 w2) W (.cons (.d (.str _)) (.cons rel1 (.cons rel2 .nil)))).mono fun e W' ⟨he, bel⟩ => ?_
  subst he
  exact ⟨_, rfl, _, _, _, [], _, [], hW', trodAll_mk1 (shut_bool Try.underlying4 _), (trodAll_cons_mk (shut_string Try.underlying9 w0) (trodAll_cons_mk (keep_arg laid (by kernel_rfl) (of_decide_eq_true (by kernel_rfl)) h1 bel) (trodAll_cons_mk (keep_arg laid (by kernel_rfl) (of_decide_eq_true (by kernel_rfl)) h2 bel) trodAll_mk0))), rfl, bel.frame _, fun h => by cases h⟩

theorem over : Rows.wireNoneRow.holds Try.pinned (OpenSpec.ofChange Rows.wireNoneSpec) :=
  OpenClaim.holds_of_wide 5 Try.f5 rfl rfl rfl rfl rfl rfl rfl ⟨rfl, rfl, rfl, rfl, rfl⟩ rfl rfl rfl rfl rfl (by kernel_rfl) Try.func5 (by kernel_rfl)
    (of_decide_eq_true (by kernel_rfl)) (by unfold Func.isWrapper; first | (rw [if_pos (by decide +kernel)]; kernel_rfl) | (rw [if_neg (by decide +kernel)]; exact ⟨rfl, rfl⟩))
    (fun os started H enc _ => lifted os started H enc)

theorem proved : Rows.WireNoneSaid := over
#print axioms proved
end Go.Proofs.Ytdcgabaobopjpaa.wireNone
