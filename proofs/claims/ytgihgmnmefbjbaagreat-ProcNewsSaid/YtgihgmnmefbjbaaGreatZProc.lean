/- ProcSame, plainly. -/
import Derived.Test.YtgihgmnmefbjbaaGreatZPIs
namespace Go.Ab
set_option linter.unusedVariables false

theorem sEqI_eq (a b : List Int) (hl : a.length < 1000000000) (d : Bool) (hd : d = true ↔ a = b) : F_slices_Equal_int_int a b = some d := by
  unfold F_slices_Equal_int_int
  by_cases h : a.length = b.length
  · have : (((a.length : Int)) != ((b.length : Int))) = false := by simp; omega
    rw [this, cond_false]
    refine Loop_same a b h (fun x y => (x == y)) (fun x y => by simp) (by omega) (fun k x y hx hy => ?_) ?_ d hd
    · have hk := lt_getq hx
      show F_slices_Equal_int_int_L1 a b (k : Int) = _
      unfold F_slices_Equal_int_int_L1
      rw [lAtn, lAtn, hx, hy, dct (by omega), cond_true]
      simp only [Option.bind_some, bne]
      cases (x == y) <;> rfl
    · show F_slices_Equal_int_int_L1 a b (a.length : Int) = _
      unfold F_slices_Equal_int_int_L1
      simp
  · have : (((a.length : Int)) != ((b.length : Int))) = true := by simp; omega
    rw [this, cond_true]
    cases d with
    | false => rfl
    | true => have := hd.1 rfl; subst this; exact absurd rfl h
theorem sEqA_eq (a b : List T_api_Alt) (hl : a.length < 1000000000) (d : Bool) (hd : d = true ↔ a = b) : F_slices_Equal_retrace_api_Alt_retrace_api_Alt a b = some d := by
  unfold F_slices_Equal_retrace_api_Alt_retrace_api_Alt
  by_cases h : a.length = b.length
  · have : (((a.length : Int)) != ((b.length : Int))) = false := by simp; omega
    rw [this, cond_false]
    refine Loop_same a b h (fun x y => ((x.Kind == y.Kind) && ((x.Chan == y.Chan) && ((x.Val == y.Val) && ((x.Slot == y.Slot) && ((x.Goto == y.Goto) && true)))))) (fun x y => ?_) (by omega) (fun k x y hx hy => ?_) ?_ d hd
    · cases x; cases y; simp
    · have hk := lt_getq hx
      show F_slices_Equal_retrace_api_Alt_retrace_api_Alt_L1 a b (k : Int) = _
      unfold F_slices_Equal_retrace_api_Alt_retrace_api_Alt_L1
      rw [lAtn, lAtn, hx, hy, dct (by omega), cond_true]
      simp only [Option.bind_some]
      cases ((x.Kind == y.Kind) && ((x.Chan == y.Chan) && ((x.Val == y.Val) && ((x.Slot == y.Slot) && ((x.Goto == y.Goto) && true))))) <;> rfl
    · show F_slices_Equal_retrace_api_Alt_retrace_api_Alt_L1 a b (a.length : Int) = _
      unfold F_slices_Equal_retrace_api_Alt_retrace_api_Alt_L1
      simp
  · have : (((a.length : Int)) != ((b.length : Int))) = true := by simp; omega
    rw [this, cond_true]
    cases d with
    | false => rfl
    | true => have := hd.1 rfl; subst this; exact absurd rfl h
theorem pSame_eq (a b : T_api_Proc) (hv : a.Vars.length < 1000000000) (ha : a.Alts.length < 1000000000) (d : Bool) (hd : d = true ↔ a = b) : F_proc_Same a b = some d := by
  have e1 := sEqI_eq a.Vars b.Vars hv (decide (a.Vars = b.Vars)) (by simp)
  classical
  have e2 := sEqA_eq a.Alts b.Alts ha (decide (a.Alts = b.Alts)) (by simp)
  have key : F_proc_Same a b = some ((a.Def == b.Def) && ((a.At == b.At) && (decide (a.Vars = b.Vars) && ((a.Fuel == b.Fuel) && ((a.Mode == b.Mode) && ((a.Chan == b.Chan) && ((a.Val == b.Val) && ((a.Slot == b.Slot) && ((a.Until == b.Until) && ((a.Since == b.Since) && decide (a.Alts = b.Alts))))))))))) := by
    unfold F_proc_Same F_proc_Same_J1
    rw [e1, e2]
    simp only [Option.bind_some]
    cases (a.Def == b.Def) with
    | false => rfl
    | true =>
    cases (a.At == b.At) with
    | false => rfl
    | true =>
    cases decide (a.Vars = b.Vars) with
    | false => rfl
    | true =>
    cases (a.Fuel == b.Fuel) with
    | false => rfl
    | true =>
    cases (a.Mode == b.Mode) with
    | false => rfl
    | true =>
    cases (a.Chan == b.Chan) with
    | false => rfl
    | true =>
    cases (a.Val == b.Val) with
    | false => rfl
    | true =>
    cases (a.Slot == b.Slot) <;> cases (a.Until == b.Until) <;> cases (a.Since == b.Since) <;> rfl
  rw [key]
  congr 1
  rw [Bool.eq_iff_iff, hd]
  cases a; cases b
  simp only [T_api_Proc.mk.injEq, Bool.and_eq_true, beq_iff_eq, decide_eq_true_eq]
theorem pSame_self (p : T_api_Proc) (hv : p.Vars.length < 1000000000) (ha : p.Alts.length < 1000000000) : F_proc_Same p p = some true := pSame_eq p p hv ha true (by simp)

theorem law_psame (a b : T_api_Proc) : F_retracelaw22_ProcSame a b = some true := by
  have hj : (b : T_api_Proc) → F_retracelaw22_ProcSame_J1 a b true = some true := fun b => by
    unfold F_retracelaw22_ProcSame_J1
    rw [cond_true, ev_retracelaw22_live]; rfl
  unfold F_retracelaw22_ProcSame
  by_cases h1 : 40 < a.Vars.length
  · rw [dct (by omega), cond_true, hj]
  rw [dcf (by omega), cond_false]
  by_cases h2 : 40 < b.Vars.length
  · rw [dct (by omega), cond_true, hj]
  rw [dcf (by omega), cond_false]
  by_cases h3 : 40 < a.Alts.length
  · rw [dct (by omega), cond_true, hj]
  rw [dcf (by omega), cond_false]
  by_cases h4 : 40 < b.Alts.length
  · rw [dct (by omega), hj]
  rw [dcf (by omega)]
  unfold F_retracelaw22_ProcSame_J1
  classical
  rw [cond_false, pSame_eq a b (by omega) (by omega) (decide (a = b)) (by simp), sameP_eq a b (by omega) (by omega) (decide (a = b)) (by simp), pSame_self a (by omega) (by omega), ev_retracelaw22_live]
  simp only [Option.bind_some, beq_self_eq_true, cond_true]
  rfl
end Go.Ab
