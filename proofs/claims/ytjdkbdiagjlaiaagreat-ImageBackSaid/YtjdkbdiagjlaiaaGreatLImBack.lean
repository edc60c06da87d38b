/- The image of any code that may be (of at most 150 instructions) is got as that code; with bits within 32 in a row turned it is none. -/
import Derived.Test.YtjdkbdiagjlaiaaGreatIAll2
import Derived.Test.YtjdkbdiagjlaiaaGreatGIC
import Derived.Test.YtjdkbdiagjlaiaaGreatAbOpen
import Derived.Test.YtjdkbdiagjlaiaaGreatRows
import Derived.WalkKit
import Derived.ProofKit
import Derived.OpenShut
import Derived.ShutString
import Derived.ChangeOld
import Derived.Below
namespace Go.Proofs.YtjdkbdiagjlaiaaGreat.imageBack
open Go.ChangeShapes Go.WideShapes Go.ChangeAt Go.RowKit Go.Ab
open Go.ChangeMaps (open_string shut_string)
set_option linter.unusedVariables false

theorem own : ownKnob Tryz.prog.godebug = none := by kernel_rfl
theorem laid : laidOutB Tryz.prog = true := by kernel_rfl

def ok_84 (x : T_api_Ins) : Prop := (fun n : Int => IntKind.i64.min ≤ n ∧ n ≤ IntKind.i64.max) x.Op ∧ (fun n : Int => IntKind.i64.min ≤ n ∧ n ≤ IntKind.i64.max) x.A ∧ (fun n : Int => IntKind.i64.min ≤ n ∧ n ≤ IntKind.i64.max) x.B
theorem dec_84 : DecT Tryz.prog 84 T_api_Ins.enc ok_84 := by
  intro ds h
  have hl := h.len Tryz.underlying84 3 (by kernel_rfl)
  match ds, hl, h with
  | [c0, c1, c2], _, h =>
    obtain ⟨x0, e0, k0⟩ := (decInt Tryz.underlying3) _ (h.fieldAt Tryz.underlying84 0 3 0 1 (by kernel_rfl))
    replace e0 : [c0] = (eInt .i64) x0 := e0
    obtain ⟨x1, e1, k1⟩ := (decInt Tryz.underlying3) _ (h.fieldAt Tryz.underlying84 1 3 1 1 (by kernel_rfl))
    replace e1 : [c1] = (eInt .i64) x1 := e1
    obtain ⟨x2, e2, k2⟩ := (decInt Tryz.underlying3) _ (h.fieldAt Tryz.underlying84 2 3 2 1 (by kernel_rfl))
    replace e2 : [c2] = (eInt .i64) x2 := e2
    simp only [List.cons.injEq, and_true] at e0
    obtain rfl := e0
    simp only [List.cons.injEq, and_true] at e1
    obtain rfl := e1
    simp only [List.cons.injEq, and_true] at e2
    obtain rfl := e2
    exact ⟨⟨x0, x1, x2⟩, rfl, k0, k1, k2⟩
def ok_61 (x : T_api_Def) : Prop := (fun s : ByteArray => s.size ≤ maxLen) x.Name ∧ (fun n : Int => IntKind.i64.min ≤ n ∧ n ≤ IntKind.i64.max) x.Entry ∧ (fun n : Int => IntKind.i64.min ≤ n ∧ n ≤ IntKind.i64.max) x.Params ∧ (fun n : Int => IntKind.i64.min ≤ n ∧ n ≤ IntKind.i64.max) x.Vars
theorem dec_61 : DecT Tryz.prog 61 T_api_Def.enc ok_61 := by
  intro ds h
  have hl := h.len Tryz.underlying61 4 (by kernel_rfl)
  match ds, hl, h with
  | [c0, c1, c2, c3], _, h =>
    obtain ⟨x0, e0, k0⟩ := (decStr Tryz.underlying9) _ (h.fieldAt Tryz.underlying61 0 9 0 1 (by kernel_rfl))
    replace e0 : [c0] = eStr x0 := e0
    obtain ⟨x1, e1, k1⟩ := (decInt Tryz.underlying3) _ (h.fieldAt Tryz.underlying61 1 3 1 1 (by kernel_rfl))
    replace e1 : [c1] = (eInt .i64) x1 := e1
    obtain ⟨x2, e2, k2⟩ := (decInt Tryz.underlying3) _ (h.fieldAt Tryz.underlying61 2 3 2 1 (by kernel_rfl))
    replace e2 : [c2] = (eInt .i64) x2 := e2
    obtain ⟨x3, e3, k3⟩ := (decInt Tryz.underlying3) _ (h.fieldAt Tryz.underlying61 3 3 3 1 (by kernel_rfl))
    replace e3 : [c3] = (eInt .i64) x3 := e3
    simp only [List.cons.injEq, and_true] at e0
    obtain rfl := e0
    simp only [List.cons.injEq, and_true] at e1
    obtain rfl := e1
    simp only [List.cons.injEq, and_true] at e2
    obtain rfl := e2
    simp only [List.cons.injEq, and_true] at e3
    obtain rfl := e3
    exact ⟨⟨x0, x1, x2, x3⟩, rfl, k0, k1, k2, k3⟩
def ok_65 (x : T_api_Chan) : Prop := (fun s : ByteArray => s.size ≤ maxLen) x.Name ∧ (fun n : Int => IntKind.i64.min ≤ n ∧ n ≤ IntKind.i64.max) x.Base ∧ (fun n : Int => IntKind.i64.min ≤ n ∧ n ≤ IntKind.i64.max) x.Size
theorem dec_65 : DecT Tryz.prog 65 T_api_Chan.enc ok_65 := by
  intro ds h
  have hl := h.len Tryz.underlying65 3 (by kernel_rfl)
  match ds, hl, h with
  | [c0, c1, c2], _, h =>
    obtain ⟨x0, e0, k0⟩ := (decStr Tryz.underlying9) _ (h.fieldAt Tryz.underlying65 0 9 0 1 (by kernel_rfl))
    replace e0 : [c0] = eStr x0 := e0
    obtain ⟨x1, e1, k1⟩ := (decInt Tryz.underlying3) _ (h.fieldAt Tryz.underlying65 1 3 1 1 (by kernel_rfl))
    replace e1 : [c1] = (eInt .i64) x1 := e1
    obtain ⟨x2, e2, k2⟩ := (decInt Tryz.underlying3) _ (h.fieldAt Tryz.underlying65 2 3 2 1 (by kernel_rfl))
    replace e2 : [c2] = (eInt .i64) x2 := e2
    simp only [List.cons.injEq, and_true] at e0
    obtain rfl := e0
    simp only [List.cons.injEq, and_true] at e1
    obtain rfl := e1
    simp only [List.cons.injEq, and_true] at e2
    obtain rfl := e2
    exact ⟨⟨x0, x1, x2⟩, rfl, k0, k1, k2⟩
def ok_27 (x : T_api_Code) : Prop := (fun l : (List T_api_Ins) => l.length ≤ maxLen ∧ ∀ x ∈ l, ok_84 x) x.Ins ∧ (fun l : (List T_api_Def) => l.length ≤ maxLen ∧ ∀ x ∈ l, ok_61 x) x.Defs ∧ (fun l : (List T_api_Chan) => l.length ≤ maxLen ∧ ∀ x ∈ l, ok_65 x) x.Chans ∧ (fun n : Int => IntKind.i64.min ≤ n ∧ n ≤ IntKind.i64.max) x.Main ∧ (fun n : Int => IntKind.i64.min ≤ n ∧ n ≤ IntKind.i64.max) x.Stmts
theorem dec_27 : DecT Tryz.prog 27 T_api_Code.enc ok_27 := by
  intro ds h
  have hl := h.len Tryz.underlying27 5 (by kernel_rfl)
  match ds, hl, h with
  | [c0, c1, c2, c3, c4], _, h =>
    obtain ⟨x0, e0, k0⟩ := (decList Tryz.underlying23 dec_84) _ (h.fieldAt Tryz.underlying27 0 23 0 1 (by kernel_rfl))
    replace e0 : [c0] = (eList T_api_Ins.enc) x0 := e0
    obtain ⟨x1, e1, k1⟩ := (decList Tryz.underlying24 dec_61) _ (h.fieldAt Tryz.underlying27 1 24 1 1 (by kernel_rfl))
    replace e1 : [c1] = (eList T_api_Def.enc) x1 := e1
    obtain ⟨x2, e2, k2⟩ := (decList Tryz.underlying25 dec_65) _ (h.fieldAt Tryz.underlying27 2 25 2 1 (by kernel_rfl))
    replace e2 : [c2] = (eList T_api_Chan.enc) x2 := e2
    obtain ⟨x3, e3, k3⟩ := (decInt Tryz.underlying3) _ (h.fieldAt Tryz.underlying27 3 3 3 1 (by kernel_rfl))
    replace e3 : [c3] = (eInt .i64) x3 := e3
    obtain ⟨x4, e4, k4⟩ := (decInt Tryz.underlying3) _ (h.fieldAt Tryz.underlying27 4 3 4 1 (by kernel_rfl))
    replace e4 : [c4] = (eInt .i64) x4 := e4
    simp only [List.cons.injEq, and_true] at e0
    obtain rfl := e0
    simp only [List.cons.injEq, and_true] at e1
    obtain rfl := e1
    simp only [List.cons.injEq, and_true] at e2
    obtain rfl := e2
    simp only [List.cons.injEq, and_true] at e3
    obtain rfl := e3
    simp only [List.cons.injEq, and_true] at e4
    obtain rfl := e4
    exact ⟨⟨x0, x1, x2, x3, x4⟩, rfl, k0, k1, k2, k3, k4⟩

theorem told (a0 : T_api_Code) (a1 : Int) (a2 : Int) (k0 : ok_27 a0) (k1 : (fun n : Int => IntKind.i64.min ≤ n ∧ n ≤ IntKind.i64.max) a1) (k2 : (fun n : Int => IntKind.u32.min ≤ n ∧ n ≤ IntKind.u32.max) a2) : FnOK Tryz.prog 4 [.agg (T_api_Code.pvs a0), i64 a1, u32 a2] [] (bo true) [] [] :=
  C_retracelaw21_ImageBack a0 a1 a2 true (law_iback a0 ⟨fun x hx => ⟨(k0.1.2 x hx).2.1, (k0.1.2 x hx).2.2⟩, fun d hd => (k0.2.1.2 d hd).1, fun d hd => (k0.2.2.1.2 d hd).1⟩ a1 a2 k1 k2.1 k2.2)

set_option maxRecDepth 100000 in
theorem lifted (os : Os) (started : os.Started) (H : Type) (enc : TypeId × Value → H) :
    ReturnsInHanded {} Tryz.checked os 4 .any (Rows.imageBackSpec.pre6 enc Tryz.prog Tryz.f4 Rows.imageBackRow.domain false) (Rows.imageBackSpec.post enc Tryz.prog Tryz.f4 false true false false) := by
  refine returnsInHanded_of_change (C := Tryz.checked) own started (by kernel_rfl) Tryz.func4
    (ChangeSpec.witness6 (enc := enc) (C := Tryz.checked) false ⟨#[], #[.agg #[.slice none 0 0, .slice none 0 0, .slice none 0 0, .int .i64 0, .int .i64 0], .int .i64 0, .int .u32 0], []⟩ 8 (by kernel_rfl) (by kernel_rfl) (by kernel_rfl) (by kernel_rfl)) ?_
  intro W base args ds gs before hval0 hW hcnd _
  have hval : ∀ (j : Nat) t v, Tryz.f4.params[j]? = some t → args[j]? = some v → Value.okWide Tryz.prog W .any base t v := hval0
  have hW' := hW
  obtain ⟨p, q, hA0, hV, rfl, hfz, hnd⟩ := hW
  have hA : DataW.TrodAll enc Tryz.prog W 0 (fun _ => true) true Tryz.f4.params.toList args.toList ds p := hA0
  rw [Tryz.params4] at hA hval
  obtain ⟨v0, vs0, d0, ds0, p0, q0, hargs, rfl, rfl, h0, r0⟩ := trodAll_cons hA
  obtain ⟨v1, vs1, d1, ds1, p1, q1, rfl, rfl, rfl, h1, r1⟩ := trodAll_cons r0
  obtain ⟨v2, vs2, d2, ds2, p2, q2, rfl, rfl, rfl, h2, r2⟩ := trodAll_cons r1
  obtain ⟨rfl, rfl, rfl⟩ := trodAll_nil r2
  obtain rfl : args = #[v0, v1, v2] := by cases args; simp_all
  obtain ⟨rfl, rfl⟩ := trodVars_none hV
  obtain ⟨y0, rel0, wf0⟩ := open_agg Tryz.underlying27 (by kernel_rfl) (hval 0 27 v0 rfl rfl) h0
  obtain ⟨a0, e0, w0⟩ := dec_27 _ wf0
  subst e0
  obtain ⟨a1, rfl, rfl, rfl, w1⟩ := open_int Tryz.underlying3 (hval 1 3 v1 rfl rfl) h1
  obtain ⟨a2, rfl, rfl, rfl, w2⟩ := open_int Tryz.underlying32 (hval 2 32 v2 rfl rfl) h2
  clear hA0 hval0
  refine (law_of (told a0 a1 a2 w0 (lit_wf w1) (lit_wf w2)) W (.cons rel0 (.cons (.d (.int _ _)) (.cons (.d (.int _ _)) .nil)))).mono fun e W' ⟨he, bel⟩ => ?_
  subst he
  exact ⟨_, rfl, _, _, _, [], _, [], hW', trodAll_mk1 (shut_bool Tryz.underlying4 _), (trodAll_cons_mk (keep_arg laid (by kernel_rfl) (of_decide_eq_true (by kernel_rfl)) h0 bel) (trodAll_cons_mk (shut_int Tryz.underlying3 w1) (trodAll_cons_mk (shut_int Tryz.underlying32 w2) trodAll_mk0))), rfl, bel.frame _, fun h => by cases h⟩

theorem over : Rows.imageBackRow.holds Tryz.pinned (OpenSpec.ofChange Rows.imageBackSpec) :=
  OpenClaim.holds_of_wide 4 Tryz.f4 rfl rfl rfl rfl rfl rfl rfl ⟨rfl, rfl, rfl, rfl, rfl⟩ rfl rfl rfl rfl rfl (by kernel_rfl) Tryz.func4 (by kernel_rfl)
    (of_decide_eq_true (by kernel_rfl)) (by unfold Func.isWrapper; first | (rw [if_pos (by decide +kernel)]; kernel_rfl) | (rw [if_neg (by decide +kernel)]; exact ⟨rfl, rfl⟩))
    (fun os started H enc _ => lifted os started H enc)

theorem proved : Rows.ImageBackSaid := over
#print axioms proved
end Go.Proofs.YtjdkbdiagjlaiaaGreat.imageBack
