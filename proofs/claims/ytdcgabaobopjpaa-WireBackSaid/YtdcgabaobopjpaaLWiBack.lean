/- What is written is read back as it was, whatever stands behind: any parts (of at most 40, of at most 200 bytes, 60 ints), any bytes behind (at most 200). -/
import Derived.Test.YtdcgabaobopjpaaPBack
import Derived.Test.YtdcgabaobopjpaaGBC
import Derived.Test.YtdcgabaobopjpaaAbOpen
import Derived.Test.YtdcgabaobopjpaaRows
import Derived.WalkKit
import Derived.ProofKit
import Derived.OpenShut
import Derived.ShutString
import Derived.ChangeOld
import Derived.Below
namespace Go.Proofs.Ytdcgabaobopjpaa.wireBack
open Go.ChangeShapes Go.WideShapes Go.ChangeAt Go.RowKit Go.Ab
open Go.ChangeMaps (open_string shut_string)
set_option linter.unusedVariables false

theorem own : ownKnob Try.prog.godebug = none := by kernel_rfl
theorem laid : laidOutB Try.prog = true := by kernel_rfl

def ok_33 (x : T_retracelaw03_Part) : Prop := (fun n : Int => IntKind.i64.min ≤ n ∧ n ≤ IntKind.i64.max) x.Kind ∧ (fun n : Int => IntKind.u64.min ≤ n ∧ n ≤ IntKind.u64.max) x.U ∧ (fun n : Int => IntKind.i64.min ≤ n ∧ n ≤ IntKind.i64.max) x.N ∧ (fun _ : Bool => True) x.B ∧ (fun s : ByteArray => s.size ≤ maxLen) x.S ∧ (fun l : (List Int) => l.length ≤ maxLen ∧ ∀ x ∈ l, (fun n : Int => IntKind.i64.min ≤ n ∧ n ≤ IntKind.i64.max) x) x.L
theorem dec_33 : DecT Try.prog 33 T_retracelaw03_Part.enc ok_33 := by
  intro ds h
  have hl := h.len Try.underlying33 6 (by kernel_rfl)
  match ds, hl, h with
  | [c0, c1, c2, c3, c4, c5], _, h =>
    obtain ⟨x0, e0, k0⟩ := (decInt Try.underlying3) _ (h.fieldAt Try.underlying33 0 3 0 1 (by kernel_rfl))
    replace e0 : [c0] = (eInt .i64) x0 := e0
    obtain ⟨x1, e1, k1⟩ := (decInt Try.underlying30) _ (h.fieldAt Try.underlying33 1 30 1 1 (by kernel_rfl))
    replace e1 : [c1] = (eInt .u64) x1 := e1
    obtain ⟨x2, e2, k2⟩ := (decInt Try.underlying3) _ (h.fieldAt Try.underlying33 2 3 2 1 (by kernel_rfl))
    replace e2 : [c2] = (eInt .i64) x2 := e2
    obtain ⟨x3, e3, k3⟩ := (decBool Try.underlying4) _ (h.fieldAt Try.underlying33 3 4 3 1 (by kernel_rfl))
    replace e3 : [c3] = eBool x3 := e3
    obtain ⟨x4, e4, k4⟩ := (decStr Try.underlying9) _ (h.fieldAt Try.underlying33 4 9 4 1 (by kernel_rfl))
    replace e4 : [c4] = eStr x4 := e4
    obtain ⟨x5, e5, k5⟩ := (decList Try.underlying31 (decInt Try.underlying3)) _ (h.fieldAt Try.underlying33 5 31 5 1 (by kernel_rfl))
    replace e5 : [c5] = (eList (eInt .i64)) x5 := e5
    simp only [List.cons.injEq, and_true] at e0
    obtain rfl := e0
    simp only [List.cons.injEq, and_true] at e1
    obtain rfl := e1
    simp only [List.cons.injEq, and_true] at e2
    obtain rfl := e2
    simp only [List.cons.injEq, and_true] at e3
    obtain rfl := e3
    simp only [List.cons.injEq, and_true] at e4
    obtain rfl := e4
    simp only [List.cons.injEq, and_true] at e5
    obtain rfl := e5
    exact ⟨⟨x0, x1, x2, x3, x4, x5⟩, rfl, k0, k1, k2, k3, k4, k5⟩

theorem told (a0 : (List T_retracelaw03_Part)) (a1 : ByteArray) (k0 : (fun l : (List T_retracelaw03_Part) => l.length ≤ maxLen ∧ ∀ x ∈ l, ok_33 x) a0) (k1 : (fun s : ByteArray => s.size ≤ maxLen) a1) : FnOK Try.prog 6 [lv T_retracelaw03_Part.enc a0, sv a1] [] (bo true) [] [] :=
  C_retracelaw03_WireBack a0 a1 true (law_wback a0 a1 (fun p hp => ⟨(k0.2 p hp).2.1, (k0.2 p hp).2.2.1, (k0.2 p hp).2.2.2.2.2.2⟩))

set_option maxRecDepth 100000 in
theorem lifted (os : Os) (started : os.Started) (H : Type) (enc : TypeId × Value → H) :
    ReturnsInHanded {} Try.checked os 6 .any (Rows.wireBackSpec.pre6 enc Try.prog Try.f6 Rows.wireBackRow.domain false) (Rows.wireBackSpec.post enc Try.prog Try.f6 false true false false) := by
  refine returnsInHanded_of_change (C := Try.checked) own started (by kernel_rfl) Try.func6
    (ChangeSpec.witness6 (enc := enc) (C := Try.checked) false ⟨#[], #[.slice none 0 0, .string ByteArray.empty], []⟩ 8 (by kernel_rfl) (by kernel_rfl) (by kernel_rfl) (by kernel_rfl)) ?_
  intro W base args ds gs before hval0 hW hcnd _
  have hval : ∀ (j : Nat) t v, Try.f6.params[j]? = some t → args[j]? = some v → Value.okWide Try.prog W .any base t v := hval0
  have hW' := hW
  obtain ⟨p, q, hA0, hV, rfl, hfz, hnd⟩ := hW
  have hA : DataW.TrodAll enc Try.prog W 0 (fun _ => true) true Try.f6.params.toList args.toList ds p := hA0
  rw [Try.params6] at hA hval
  obtain ⟨v0, vs0, d0, ds0, p0, q0, hargs, rfl, rfl, h0, r0⟩ := trodAll_cons hA
  obtain ⟨v1, vs1, d1, ds1, p1, q1, rfl, rfl, rfl, h1, r1⟩ := trodAll_cons r0
  obtain ⟨rfl, rfl, rfl⟩ := trodAll_nil r1
  obtain rfl : args = #[v0, v1] := by cases args; simp_all
  obtain ⟨rfl, rfl⟩ := trodVars_none hV
  obtain ⟨y0, rel0, wf0⟩ := open_sl Try.underlying22 (by kernel_rfl) (hval 0 22 v0 rfl rfl) h0
  obtain ⟨a0, e0, w0⟩ := (decList Try.underlying22 dec_33) _ wf0
  simp only [List.cons.injEq, and_true] at e0; subst e0
  obtain ⟨a1, rfl, rfl, rfl, w1⟩ := open_string Try.underlying9 (hval 1 9 v1 rfl rfl) h1
  clear hA0 hval0
  refine (law_of (told a0 a1 w0 w1) W (.cons rel0 (.cons (.d (.str _)) .nil))).mono fun e W' ⟨he, bel⟩ => ?_
  subst he
  exact ⟨_, rfl, _, _, _, [], _, [], hW', trodAll_mk1 (shut_bool Try.underlying4 _), (trodAll_cons_mk (keep_arg laid (by kernel_rfl) (of_decide_eq_true (by kernel_rfl)) h0 bel) (trodAll_cons_mk (shut_string Try.underlying9 w1) trodAll_mk0)), rfl, bel.frame _, fun h => by cases h⟩

theorem over : Rows.wireBackRow.holds Try.pinned (OpenSpec.ofChange Rows.wireBackSpec) :=
  OpenClaim.holds_of_wide 6 Try.f6 rfl rfl rfl rfl rfl rfl rfl ⟨rfl, rfl, rfl, rfl, rfl⟩ rfl rfl rfl rfl rfl (by kernel_rfl) Try.func6 (by kernel_rfl)
    (of_decide_eq_true (by kernel_rfl)) (by unfold Func.isWrapper; first | (rw [if_pos (by decide +kernel)]; kernel_rfl) | (rw [if_neg (by decide +kernel)]; exact ⟨rfl, rfl⟩))
    (fun os started H enc _ => lifted os started H enc)

theorem proved : Rows.WireBackSaid := over
#print axioms proved
end Go.Proofs.Ytdcgabaobopjpaa.wireBack
