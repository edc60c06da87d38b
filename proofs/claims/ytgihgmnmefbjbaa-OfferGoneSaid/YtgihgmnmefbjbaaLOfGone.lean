/- Who offers something, as offer.Of tells, and has been met by offer.Met, may be, offers it no more, is ready or done, and has the fuel and routine as before; a receiver has what was sent. -/
import Derived.Test.YtgihgmnmefbjbaaPMet
import Derived.Test.YtgihgmnmefbjbaaGOC
import Derived.Test.YtgihgmnmefbjbaaAbOpen
import Derived.Test.YtgihgmnmefbjbaaRows
import Derived.WalkKit
import Derived.ProofKit
import Derived.OpenShut
import Derived.ShutString
import Derived.ChangeOld
import Derived.Below
namespace Go.Proofs.Ytgihgmnmefbjbaa.offerGone
open Go.ChangeShapes Go.WideShapes Go.ChangeAt Go.RowKit Go.Ab
open Go.ChangeMaps (open_string shut_string)
set_option linter.unusedVariables false

theorem own : ownKnob Try.prog.godebug = none := by kernel_rfl
theorem laid : laidOutB Try.prog = true := by kernel_rfl

def ok_92 (x : T_api_Ins) : Prop := (fun n : Int => IntKind.i64.min ≤ n ∧ n ≤ IntKind.i64.max) x.Op ∧ (fun n : Int => IntKind.i64.min ≤ n ∧ n ≤ IntKind.i64.max) x.A ∧ (fun n : Int => IntKind.i64.min ≤ n ∧ n ≤ IntKind.i64.max) x.B
theorem dec_92 : DecT Try.prog 92 T_api_Ins.enc ok_92 := by
  intro ds h
  have hl := h.len Try.underlying92 3 (by kernel_rfl)
  match ds, hl, h with
  | [c0, c1, c2], _, h =>
    obtain ⟨x0, e0, k0⟩ := (decInt Try.underlying3) _ (h.fieldAt Try.underlying92 0 3 0 1 (by kernel_rfl))
    replace e0 : [c0] = (eInt .i64) x0 := e0
    obtain ⟨x1, e1, k1⟩ := (decInt Try.underlying3) _ (h.fieldAt Try.underlying92 1 3 1 1 (by kernel_rfl))
    replace e1 : [c1] = (eInt .i64) x1 := e1
    obtain ⟨x2, e2, k2⟩ := (decInt Try.underlying3) _ (h.fieldAt Try.underlying92 2 3 2 1 (by kernel_rfl))
    replace e2 : [c2] = (eInt .i64) x2 := e2
    simp only [List.cons.injEq, and_true] at e0
    obtain rfl := e0
    simp only [List.cons.injEq, and_true] at e1
    obtain rfl := e1
    simp only [List.cons.injEq, and_true] at e2
    obtain rfl := e2
    exact ⟨⟨x0, x1, x2⟩, rfl, k0, k1, k2⟩
def ok_79 (x : T_api_Def) : Prop := (fun s : ByteArray => s.size ≤ maxLen) x.Name ∧ (fun n : Int => IntKind.i64.min ≤ n ∧ n ≤ IntKind.i64.max) x.Entry ∧ (fun n : Int => IntKind.i64.min ≤ n ∧ n ≤ IntKind.i64.max) x.Params ∧ (fun n : Int => IntKind.i64.min ≤ n ∧ n ≤ IntKind.i64.max) x.Vars
theorem dec_79 : DecT Try.prog 79 T_api_Def.enc ok_79 := by
  intro ds h
  have hl := h.len Try.underlying79 4 (by kernel_rfl)
  match ds, hl, h with
  | [c0, c1, c2, c3], _, h =>
    obtain ⟨x0, e0, k0⟩ := (decStr Try.underlying9) _ (h.fieldAt Try.underlying79 0 9 0 1 (by kernel_rfl))
    replace e0 : [c0] = eStr x0 := e0
    obtain ⟨x1, e1, k1⟩ := (decInt Try.underlying3) _ (h.fieldAt Try.underlying79 1 3 1 1 (by kernel_rfl))
    replace e1 : [c1] = (eInt .i64) x1 := e1
    obtain ⟨x2, e2, k2⟩ := (decInt Try.underlying3) _ (h.fieldAt Try.underlying79 2 3 2 1 (by kernel_rfl))
    replace e2 : [c2] = (eInt .i64) x2 := e2
    obtain ⟨x3, e3, k3⟩ := (decInt Try.underlying3) _ (h.fieldAt Try.underlying79 3 3 3 1 (by kernel_rfl))
    replace e3 : [c3] = (eInt .i64) x3 := e3
    simp only [List.cons.injEq, and_true] at e0
    obtain rfl := e0
    simp only [List.cons.injEq, and_true] at e1
    obtain rfl := e1
    simp only [List.cons.injEq, and_true] at e2
    obtain rfl := e2
    simp only [List.cons.injEq, and_true] at e3
    obtain rfl := e3
    exact ⟨⟨x0, x1, x2, x3⟩, rfl, k0, k1, k2, k3⟩
def ok_94 (x : T_api_Chan) : Prop := (fun s : ByteArray => s.size ≤ maxLen) x.Name ∧ (fun n : Int => IntKind.i64.min ≤ n ∧ n ≤ IntKind.i64.max) x.Base ∧ (fun n : Int => IntKind.i64.min ≤ n ∧ n ≤ IntKind.i64.max) x.Size
theorem dec_94 : DecT Try.prog 94 T_api_Chan.enc ok_94 := by
  intro ds h
  have hl := h.len Try.underlying94 3 (by kernel_rfl)
  match ds, hl, h with
  | [c0, c1, c2], _, h =>
    obtain ⟨x0, e0, k0⟩ := (decStr Try.underlying9) _ (h.fieldAt Try.underlying94 0 9 0 1 (by kernel_rfl))
    replace e0 : [c0] = eStr x0 := e0
    obtain ⟨x1, e1, k1⟩ := (decInt Try.underlying3) _ (h.fieldAt Try.underlying94 1 3 1 1 (by kernel_rfl))
    replace e1 : [c1] = (eInt .i64) x1 := e1
    obtain ⟨x2, e2, k2⟩ := (decInt Try.underlying3) _ (h.fieldAt Try.underlying94 2 3 2 1 (by kernel_rfl))
    replace e2 : [c2] = (eInt .i64) x2 := e2
    simp only [List.cons.injEq, and_true] at e0
    obtain rfl := e0
    simp only [List.cons.injEq, and_true] at e1
    obtain rfl := e1
    simp only [List.cons.injEq, and_true] at e2
    obtain rfl := e2
    exact ⟨⟨x0, x1, x2⟩, rfl, k0, k1, k2⟩
def ok_26 (x : T_api_Code) : Prop := (fun l : (List T_api_Ins) => l.length ≤ maxLen ∧ ∀ x ∈ l, ok_92 x) x.Ins ∧ (fun l : (List T_api_Def) => l.length ≤ maxLen ∧ ∀ x ∈ l, ok_79 x) x.Defs ∧ (fun l : (List T_api_Chan) => l.length ≤ maxLen ∧ ∀ x ∈ l, ok_94 x) x.Chans ∧ (fun n : Int => IntKind.i64.min ≤ n ∧ n ≤ IntKind.i64.max) x.Main ∧ (fun n : Int => IntKind.i64.min ≤ n ∧ n ≤ IntKind.i64.max) x.Stmts
theorem dec_26 : DecT Try.prog 26 T_api_Code.enc ok_26 := by
  intro ds h
  have hl := h.len Try.underlying26 5 (by kernel_rfl)
  match ds, hl, h with
  | [c0, c1, c2, c3, c4], _, h =>
    obtain ⟨x0, e0, k0⟩ := (decList Try.underlying22 dec_92) _ (h.fieldAt Try.underlying26 0 22 0 1 (by kernel_rfl))
    replace e0 : [c0] = (eList T_api_Ins.enc) x0 := e0
    obtain ⟨x1, e1, k1⟩ := (decList Try.underlying23 dec_79) _ (h.fieldAt Try.underlying26 1 23 1 1 (by kernel_rfl))
    replace e1 : [c1] = (eList T_api_Def.enc) x1 := e1
    obtain ⟨x2, e2, k2⟩ := (decList Try.underlying24 dec_94) _ (h.fieldAt Try.underlying26 2 24 2 1 (by kernel_rfl))
    replace e2 : [c2] = (eList T_api_Chan.enc) x2 := e2
    obtain ⟨x3, e3, k3⟩ := (decInt Try.underlying3) _ (h.fieldAt Try.underlying26 3 3 3 1 (by kernel_rfl))
    replace e3 : [c3] = (eInt .i64) x3 := e3
    obtain ⟨x4, e4, k4⟩ := (decInt Try.underlying3) _ (h.fieldAt Try.underlying26 4 3 4 1 (by kernel_rfl))
    replace e4 : [c4] = (eInt .i64) x4 := e4
    simp only [List.cons.injEq, and_true] at e0
    obtain rfl := e0
    simp only [List.cons.injEq, and_true] at e1
    obtain rfl := e1
    simp only [List.cons.injEq, and_true] at e2
    obtain rfl := e2
    simp only [List.cons.injEq, and_true] at e3
    obtain rfl := e3
    simp only [List.cons.injEq, and_true] at e4
    obtain rfl := e4
    exact ⟨⟨x0, x1, x2, x3, x4⟩, rfl, k0, k1, k2, k3, k4⟩
def ok_51 (x : T_api_Alt) : Prop := (fun n : Int => IntKind.i64.min ≤ n ∧ n ≤ IntKind.i64.max) x.Kind ∧ (fun n : Int => IntKind.i64.min ≤ n ∧ n ≤ IntKind.i64.max) x.Chan ∧ (fun n : Int => IntKind.i64.min ≤ n ∧ n ≤ IntKind.i64.max) x.Val ∧ (fun n : Int => IntKind.i64.min ≤ n ∧ n ≤ IntKind.i64.max) x.Slot ∧ (fun n : Int => IntKind.i64.min ≤ n ∧ n ≤ IntKind.i64.max) x.Goto
theorem dec_51 : DecT Try.prog 51 T_api_Alt.enc ok_51 := by
  intro ds h
  have hl := h.len Try.underlying51 5 (by kernel_rfl)
  match ds, hl, h with
  | [c0, c1, c2, c3, c4], _, h =>
    obtain ⟨x0, e0, k0⟩ := (decInt Try.underlying3) _ (h.fieldAt Try.underlying51 0 3 0 1 (by kernel_rfl))
    replace e0 : [c0] = (eInt .i64) x0 := e0
    obtain ⟨x1, e1, k1⟩ := (decInt Try.underlying3) _ (h.fieldAt Try.underlying51 1 3 1 1 (by kernel_rfl))
    replace e1 : [c1] = (eInt .i64) x1 := e1
    obtain ⟨x2, e2, k2⟩ := (decInt Try.underlying3) _ (h.fieldAt Try.underlying51 2 3 2 1 (by kernel_rfl))
    replace e2 : [c2] = (eInt .i64) x2 := e2
    obtain ⟨x3, e3, k3⟩ := (decInt Try.underlying3) _ (h.fieldAt Try.underlying51 3 3 3 1 (by kernel_rfl))
    replace e3 : [c3] = (eInt .i64) x3 := e3
    obtain ⟨x4, e4, k4⟩ := (decInt Try.underlying3) _ (h.fieldAt Try.underlying51 4 3 4 1 (by kernel_rfl))
    replace e4 : [c4] = (eInt .i64) x4 := e4
    simp only [List.cons.injEq, and_true] at e0
    obtain rfl := e0
    simp only [List.cons.injEq, and_true] at e1
    obtain rfl := e1
    simp only [List.cons.injEq, and_true] at e2
    obtain rfl := e2
    simp only [List.cons.injEq, and_true] at e3
    obtain rfl := e3
    simp only [List.cons.injEq, and_true] at e4
    obtain rfl := e4
    exact ⟨⟨x0, x1, x2, x3, x4⟩, rfl, k0, k1, k2, k3, k4⟩
def ok_38 (x : T_api_Proc) : Prop := (fun n : Int => IntKind.i64.min ≤ n ∧ n ≤ IntKind.i64.max) x.Def ∧ (fun n : Int => IntKind.i64.min ≤ n ∧ n ≤ IntKind.i64.max) x.At ∧ (fun l : (List Int) => l.length ≤ maxLen ∧ ∀ x ∈ l, (fun n : Int => IntKind.i64.min ≤ n ∧ n ≤ IntKind.i64.max) x) x.Vars ∧ (fun n : Int => IntKind.i64.min ≤ n ∧ n ≤ IntKind.i64.max) x.Fuel ∧ (fun n : Int => IntKind.i64.min ≤ n ∧ n ≤ IntKind.i64.max) x.Mode ∧ (fun n : Int => IntKind.i64.min ≤ n ∧ n ≤ IntKind.i64.max) x.Chan ∧ (fun n : Int => IntKind.i64.min ≤ n ∧ n ≤ IntKind.i64.max) x.Val ∧ (fun n : Int => IntKind.i64.min ≤ n ∧ n ≤ IntKind.i64.max) x.Slot ∧ (fun n : Int => IntKind.i64.min ≤ n ∧ n ≤ IntKind.i64.max) x.Until ∧ (fun n : Int => IntKind.i64.min ≤ n ∧ n ≤ IntKind.i64.max) x.Since ∧ (fun l : (List T_api_Alt) => l.length ≤ maxLen ∧ ∀ x ∈ l, ok_51 x) x.Alts
theorem dec_38 : DecT Try.prog 38 T_api_Proc.enc ok_38 := by
  intro ds h
  have hl := h.len Try.underlying38 11 (by kernel_rfl)
  match ds, hl, h with
  | [c0, c1, c2, c3, c4, c5, c6, c7, c8, c9, c10], _, h =>
    obtain ⟨x0, e0, k0⟩ := (decInt Try.underlying3) _ (h.fieldAt Try.underlying38 0 3 0 1 (by kernel_rfl))
    replace e0 : [c0] = (eInt .i64) x0 := e0
    obtain ⟨x1, e1, k1⟩ := (decInt Try.underlying3) _ (h.fieldAt Try.underlying38 1 3 1 1 (by kernel_rfl))
    replace e1 : [c1] = (eInt .i64) x1 := e1
    obtain ⟨x2, e2, k2⟩ := (decList Try.underlying35 (decInt Try.underlying3)) _ (h.fieldAt Try.underlying38 2 35 2 1 (by kernel_rfl))
    replace e2 : [c2] = (eList (eInt .i64)) x2 := e2
    obtain ⟨x3, e3, k3⟩ := (decInt Try.underlying3) _ (h.fieldAt Try.underlying38 3 3 3 1 (by kernel_rfl))
    replace e3 : [c3] = (eInt .i64) x3 := e3
    obtain ⟨x4, e4, k4⟩ := (decInt Try.underlying3) _ (h.fieldAt Try.underlying38 4 3 4 1 (by kernel_rfl))
    replace e4 : [c4] = (eInt .i64) x4 := e4
    obtain ⟨x5, e5, k5⟩ := (decInt Try.underlying3) _ (h.fieldAt Try.underlying38 5 3 5 1 (by kernel_rfl))
    replace e5 : [c5] = (eInt .i64) x5 := e5
    obtain ⟨x6, e6, k6⟩ := (decInt Try.underlying3) _ (h.fieldAt Try.underlying38 6 3 6 1 (by kernel_rfl))
    replace e6 : [c6] = (eInt .i64) x6 := e6
    obtain ⟨x7, e7, k7⟩ := (decInt Try.underlying3) _ (h.fieldAt Try.underlying38 7 3 7 1 (by kernel_rfl))
    replace e7 : [c7] = (eInt .i64) x7 := e7
    obtain ⟨x8, e8, k8⟩ := (decInt Try.underlying3) _ (h.fieldAt Try.underlying38 8 3 8 1 (by kernel_rfl))
    replace e8 : [c8] = (eInt .i64) x8 := e8
    obtain ⟨x9, e9, k9⟩ := (decInt Try.underlying3) _ (h.fieldAt Try.underlying38 9 3 9 1 (by kernel_rfl))
    replace e9 : [c9] = (eInt .i64) x9 := e9
    obtain ⟨x10, e10, k10⟩ := (decList Try.underlying36 dec_51) _ (h.fieldAt Try.underlying38 10 36 10 1 (by kernel_rfl))
    replace e10 : [c10] = (eList T_api_Alt.enc) x10 := e10
    simp only [List.cons.injEq, and_true] at e0
    obtain rfl := e0
    simp only [List.cons.injEq, and_true] at e1
    obtain rfl := e1
    simp only [List.cons.injEq, and_true] at e2
    obtain rfl := e2
    simp only [List.cons.injEq, and_true] at e3
    obtain rfl := e3
    simp only [List.cons.injEq, and_true] at e4
    obtain rfl := e4
    simp only [List.cons.injEq, and_true] at e5
    obtain rfl := e5
    simp only [List.cons.injEq, and_true] at e6
    obtain rfl := e6
    simp only [List.cons.injEq, and_true] at e7
    obtain rfl := e7
    simp only [List.cons.injEq, and_true] at e8
    obtain rfl := e8
    simp only [List.cons.injEq, and_true] at e9
    obtain rfl := e9
    simp only [List.cons.injEq, and_true] at e10
    obtain rfl := e10
    exact ⟨⟨x0, x1, x2, x3, x4, x5, x6, x7, x8, x9, x10⟩, rfl, k0, k1, k2, k3, k4, k5, k6, k7, k8, k9, k10⟩

theorem told (a0 : T_api_Code) (a1 : T_api_Proc) (a2 : Int) (a3 : Int) (a4 : Int) (k0 : ok_26 a0) (k1 : ok_38 a1) (k2 : (fun n : Int => IntKind.i64.min ≤ n ∧ n ≤ IntKind.i64.max) a2) (k3 : (fun n : Int => IntKind.i64.min ≤ n ∧ n ≤ IntKind.i64.max) a3) (k4 : (fun n : Int => IntKind.i64.min ≤ n ∧ n ≤ IntKind.i64.max) a4) : FnOK Try.prog 6 [.agg (T_api_Code.pvs a0), .agg (T_api_Proc.pvs a1), i64 a2, i64 a3, i64 a4] [] (bo true) [] [] :=
  C_retracelaw25_OfferGone a0 a1 a2 a3 a4 true (law_ogone a0 a1 a2 a3 a4 (fun d h => (k0.2.1.2 d h).1) (fun d h => (k0.2.2.1.2 d h).1))

set_option maxRecDepth 100000 in
theorem lifted (os : Os) (started : os.Started) (H : Type) (enc : TypeId × Value → H) :
    ReturnsInHanded {} Try.checked os 6 .any (Rows.offerGoneSpec.pre6 enc Try.prog Try.f6 Rows.offerGoneRow.domain false) (Rows.offerGoneSpec.post enc Try.prog Try.f6 false true false false) := by
  refine returnsInHanded_of_change (C := Try.checked) own started (by kernel_rfl) Try.func6
    (ChangeSpec.witness6 (enc := enc) (C := Try.checked) false ⟨#[], #[.agg #[.slice none 0 0, .slice none 0 0, .slice none 0 0, .int .i64 0, .int .i64 0], .agg #[.int .i64 0, .int .i64 0, .slice none 0 0, .int .i64 0, .int .i64 0, .int .i64 0, .int .i64 0, .int .i64 0, .int .i64 0, .int .i64 0, .slice none 0 0], .int .i64 0, .int .i64 0, .int .i64 0], []⟩ 8 (by kernel_rfl) (by kernel_rfl) (by kernel_rfl) (by kernel_rfl)) ?_
  intro W base args ds gs before hval0 hW hcnd _
  have hval : ∀ (j : Nat) t v, Try.f6.params[j]? = some t → args[j]? = some v → Value.okWide Try.prog W .any base t v := hval0
  have hW' := hW
  obtain ⟨p, q, hA0, hV, rfl, hfz, hnd⟩ := hW
  have hA : DataW.TrodAll enc Try.prog W 0 (fun _ => true) true Try.f6.params.toList args.toList ds p := hA0
  rw [Try.params6] at hA hval
  obtain ⟨v0, vs0, d0, ds0, p0, q0, hargs, rfl, rfl, h0, r0⟩ := trodAll_cons hA
  obtain ⟨v1, vs1, d1, ds1, p1, q1, rfl, rfl, rfl, h1, r1⟩ := trodAll_cons r0
  obtain ⟨v2, vs2, d2, ds2, p2, q2, rfl, rfl, rfl, h2, r2⟩ := trodAll_cons r1
  obtain ⟨v3, vs3, d3, ds3, p3, q3, rfl, rfl, rfl, h3, r3⟩ := trodAll_cons r2
  obtain ⟨v4, vs4, d4, ds4, p4, q4, rfl, rfl, rfl, h4, r4⟩ := trodAll_cons r3
  obtain ⟨rfl, rfl, rfl⟩ := trodAll_nil r4
  obtain rfl : args = #[v0, v1, v2, v3, v4] := by cases args; simp_all
  obtain ⟨rfl, rfl⟩ := trodVars_none hV
  obtain ⟨y0, rel0, wf0⟩ := open_agg Try.underlying26 (by kernel_rfl) (hval 0 26 v0 rfl rfl) h0
  obtain ⟨a0, e0, w0⟩ := dec_26 _ wf0
  subst e0
  obtain ⟨y1, rel1, wf1⟩ := open_agg Try.underlying38 (by kernel_rfl) (hval 1 38 v1 rfl rfl) h1
  obtain ⟨a1, e1, w1⟩ := dec_38 _ wf1
  subst e1
  obtain ⟨a2, rfl, rfl, rfl, w2⟩ := open_int Try.underlying3 (hval 2 3 v2 rfl rfl) h2
  obtain ⟨a3, rfl, rfl, rfl, w3⟩ := open_int Try.underlying3 (hval 3 3 v3 rfl rfl) h3
  obtain ⟨a4, rfl, rfl, rfl, w4⟩ := open_int Try.underlying3 (hval 4 3 v4 rfl rfl) h4
  clear hA0 hval0
  refine (law_of (told a0 a1 a2 a3 a4 w0 w1 (lit_wf w2) (lit_wf w3) (lit_wf w4)) W (.cons rel0 (.cons rel1 (.cons (.d (.int _ _)) (.cons (.d (.int _ _)) (.cons (.d (.int _ _)) .nil)))))).mono fun e W' ⟨he, bel⟩ => ?_
  subst he
  exact ⟨_, rfl, _, _, _, [], _, [], hW', trodAll_mk1 (shut_bool Try.underlying4 _), (trodAll_cons_mk (keep_arg laid (by kernel_rfl) (of_decide_eq_true (by kernel_rfl)) h0 bel) (trodAll_cons_mk (keep_arg laid (by kernel_rfl) (of_decide_eq_true (by kernel_rfl)) h1 bel) (trodAll_cons_mk (shut_int Try.underlying3 w2) (trodAll_cons_mk (shut_int Try.underlying3 w3) (trodAll_cons_mk (shut_int Try.underlying3 w4) trodAll_mk0))))), rfl, bel.frame _, fun h => by cases h⟩

theorem over : Rows.offerGoneRow.holds Try.pinned (OpenSpec.ofChange Rows.offerGoneSpec) :=
  OpenClaim.holds_of_wide 6 Try.f6 rfl rfl rfl rfl rfl rfl rfl ⟨rfl, rfl, rfl, rfl, rfl⟩ rfl rfl rfl rfl rfl (by kernel_rfl) Try.func6 (by kernel_rfl)
    (of_decide_eq_true (by kernel_rfl)) (by unfold Func.isWrapper; first | (rw [if_pos (by decide +kernel)]; kernel_rfl) | (rw [if_neg (by decide +kernel)]; exact ⟨rfl, rfl⟩))
    (fun os started H enc _ => lifted os started H enc)

theorem proved : Rows.OfferGoneSaid := over
#print axioms proved
end Go.Proofs.Ytgihgmnmefbjbaa.offerGone
