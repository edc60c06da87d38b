/- RunSame, plainly. -/
import Derived.Test.YtholdfpblliiiaaGreatGRbX
import Derived.Test.YtholdfpblliiiaaGreatAbPlain
namespace Go.Ab
set_option linter.unusedVariables false

theorem sEqI_eq (a b : List Int) (hl : a.length < 1000000000) (d : Bool) (hd : d = true ↔ a = b) : F_slices_Equal_int_int a b = some d := by
  unfold F_slices_Equal_int_int
  by_cases h : a.length = b.length
  · have : (((a.length : Int)) != ((b.length : Int))) = false := by simp; omega
    rw [this, cond_false]
    refine Loop_same a b h (fun x y => (x == y)) (fun x y => by simp) (by omega) (fun k x y hx hy => ?_) ?_ d hd
    · have hk := lt_of_getL hx
      show F_slices_Equal_int_int_L1 a b (k : Int) = _
      unfold F_slices_Equal_int_int_L1
      rw [lAtn, lAtn, hx, hy, dct (by omega), cond_true]
      simp only [Option.bind_some, bne]
      cases (x == y) <;> rfl
    · show F_slices_Equal_int_int_L1 a b (a.length : Int) = _
      unfold F_slices_Equal_int_int_L1
      simp
  · have : (((a.length : Int)) != ((b.length : Int))) = true := by simp; omega
    rw [this, cond_true]
    cases d with
    | false => rfl
    | true => have := hd.1 rfl; subst this; exact absurd rfl h
theorem sEqA_eq (a b : List T_api_Alt) (hl : a.length < 1000000000) (d : Bool) (hd : d = true ↔ a = b) : F_slices_Equal_retrace_api_Alt_retrace_api_Alt a b = some d := by
  unfold F_slices_Equal_retrace_api_Alt_retrace_api_Alt
  by_cases h : a.length = b.length
  · have : (((a.length : Int)) != ((b.length : Int))) = false := by simp; omega
    rw [this, cond_false]
    refine Loop_same a b h (fun x y => ((x.Kind == y.Kind) && ((x.Chan == y.Chan) && ((x.Val == y.Val) && ((x.Slot == y.Slot) && ((x.Goto == y.Goto) && true)))))) (fun x y => ?_) (by omega) (fun k x y hx hy => ?_) ?_ d hd
    · cases x; cases y; simp
    · have hk := lt_of_getL hx
      show F_slices_Equal_retrace_api_Alt_retrace_api_Alt_L1 a b (k : Int) = _
      unfold F_slices_Equal_retrace_api_Alt_retrace_api_Alt_L1
      rw [lAtn, lAtn, hx, hy, dct (by omega), cond_true]
      simp only [Option.bind_some]
      cases ((x.Kind == y.Kind) && ((x.Chan == y.Chan) && ((x.Val == y.Val) && ((x.Slot == y.Slot) && ((x.Goto == y.Goto) && true))))) <;> rfl
    · show F_slices_Equal_retrace_api_Alt_retrace_api_Alt_L1 a b (a.length : Int) = _
      unfold F_slices_Equal_retrace_api_Alt_retrace_api_Alt_L1
      simp
  · have : (((a.length : Int)) != ((b.length : Int))) = true := by simp; omega
    rw [this, cond_true]
    cases d with
    | false => rfl
    | true => have := hd.1 rfl; subst this; exact absurd rfl h
theorem s3I_eq (a b : List Int) (hl : a.length < 1000000000) (d : Bool) (hd : d = true ↔ a = b) : F_retraceref03_Same a b = some d := by
  unfold F_retraceref03_Same
  by_cases h : a.length = b.length
  · have : (((a.length : Int)) != ((b.length : Int))) = false := by simp; omega
    rw [this, cond_false]
    refine Loop_same a b h (fun x y => (x == y)) (fun x y => by simp) (by omega) (fun k x y hx hy => ?_) ?_ d hd
    · have hk := lt_of_getL hx
      show F_retraceref03_Same_L1 a b (k : Int) = _
      unfold F_retraceref03_Same_L1
      rw [lAtn, lAtn, hx, hy, dct (by omega), cond_true]
      simp only [Option.bind_some, bne]
      cases (x == y) <;> rfl
    · show F_retraceref03_Same_L1 a b (a.length : Int) = _
      unfold F_retraceref03_Same_L1
      simp
  · have : (((a.length : Int)) != ((b.length : Int))) = true := by simp; omega
    rw [this, cond_true]
    cases d with
    | false => rfl
    | true => have := hd.1 rfl; subst this; exact absurd rfl h
theorem s22A_eq (a b : List T_api_Alt) (hl : a.length < 1000000000) (d : Bool) (hd : d = true ↔ a = b) : F_retraceref22_Alts a b = some d := by
  unfold F_retraceref22_Alts
  by_cases h : a.length = b.length
  · have : (((a.length : Int)) != ((b.length : Int))) = false := by simp; omega
    rw [this, cond_false]
    refine Loop_same a b h (fun x y => ((x.Kind == y.Kind) && ((x.Chan == y.Chan) && ((x.Val == y.Val) && ((x.Slot == y.Slot) && ((x.Goto == y.Goto) && true)))))) (fun x y => ?_) (by omega) (fun k x y hx hy => ?_) ?_ d hd
    · cases x; cases y; simp
    · have hk := lt_of_getL hx
      show F_retraceref22_Alts_L1 a b (k : Int) = _
      unfold F_retraceref22_Alts_L1
      rw [lAtn, lAtn, hx, hy, dct (by omega), cond_true]
      simp only [Option.bind_some]
      cases ((x.Kind == y.Kind) && ((x.Chan == y.Chan) && ((x.Val == y.Val) && ((x.Slot == y.Slot) && ((x.Goto == y.Goto) && true))))) <;> rfl
    · show F_retraceref22_Alts_L1 a b (a.length : Int) = _
      unfold F_retraceref22_Alts_L1
      simp
  · have : (((a.length : Int)) != ((b.length : Int))) = true := by simp; omega
    rw [this, cond_true]
    cases d with
    | false => rfl
    | true => have := hd.1 rfl; subst this; exact absurd rfl h

def effQ (a b : T_api_Effect) (x y : Bool) : Bool := (a.Kind == b.Kind) && ((a.Stmt == b.Stmt) && ((a.At == b.At) && ((a.Chan == b.Chan) && ((a.Val == b.Val) && ((a.Slot == b.Slot) && ((a.Def == b.Def) && ((a.Fault == b.Fault) && (x && y))))))))
theorem rSame_eq (a b : T_api_Effect) (hv : a.Args.length < 1000000000) (ha : a.Alts.length < 1000000000) (x y : Bool) (hx : x = true ↔ a.Args = b.Args) (hy : y = true ↔ a.Alts = b.Alts) : F_run_Same a b = some (effQ a b x y) := by
  unfold F_run_Same F_run_Same_J1 effQ
  rw [sEqI_eq a.Args b.Args hv x hx, sEqA_eq a.Alts b.Alts ha y hy]
  simp only [Option.bind_some]
  cases (a.Kind == b.Kind) with
  | false => rfl
  | true =>
  cases (a.Stmt == b.Stmt) with
  | false => rfl
  | true =>
  cases (a.At == b.At) with
  | false => rfl
  | true =>
  cases (a.Chan == b.Chan) with
  | false => rfl
  | true =>
  cases (a.Val == b.Val) with
  | false => rfl
  | true =>
  cases (a.Slot == b.Slot) with
  | false => rfl
  | true =>
  cases (a.Def == b.Def) <;> cases (a.Fault == b.Fault) <;> cases x <;> rfl
theorem kSame_eq (a b : T_api_Effect) (hv : a.Args.length < 1000000000) (ha : a.Alts.length < 1000000000) (x y : Bool) (hx : x = true ↔ a.Args = b.Args) (hy : y = true ↔ a.Alts = b.Alts) : F_retraceref24_Same a b = some (effQ a b x y) := by
  unfold F_retraceref24_Same F_retraceref24_Same_J1 F_retraceref24_Same_J2 effQ
  rw [s3I_eq a.Args b.Args hv x hx, s22A_eq a.Alts b.Alts ha y hy]
  simp only [Option.bind_some, bne]
  cases (a.Kind == b.Kind) with
  | false => rfl
  | true =>
  cases (a.Stmt == b.Stmt) with
  | false => rfl
  | true =>
  cases (a.At == b.At) with
  | false => rfl
  | true =>
  cases (a.Chan == b.Chan) with
  | false => rfl
  | true =>
  cases (a.Val == b.Val) with
  | false => rfl
  | true =>
  cases (a.Slot == b.Slot) with
  | false => rfl
  | true =>
  cases (a.Def == b.Def) <;> cases (a.Fault == b.Fault) <;> cases x <;> rfl
theorem law_rsame (a b : T_api_Effect) : F_retracelaw24_RunSame a b = some true := by
  have hj : F_retracelaw24_RunSame_J1 a b true = some true := by
    unfold F_retracelaw24_RunSame_J1
    rw [cond_true, ev_retracelaw24_live]; rfl
  unfold F_retracelaw24_RunSame
  by_cases h1 : 40 < a.Args.length
  · rw [dct (by omega), cond_true, hj]
  rw [dcf (by omega), cond_false]
  by_cases h2 : 40 < b.Args.length
  · rw [dct (by omega), cond_true, hj]
  rw [dcf (by omega), cond_false]
  by_cases h3 : 40 < a.Alts.length
  · rw [dct (by omega), cond_true, hj]
  rw [dcf (by omega), cond_false]
  by_cases h4 : 40 < b.Alts.length
  · rw [dct (by omega), hj]
  rw [dcf (by omega)]
  unfold F_retracelaw24_RunSame_J1
  classical
  have es : F_run_Same b b = some true := by
    rw [rSame_eq b b (by omega) (by omega) true true (by simp) (by simp)]
    simp [effQ]
  rw [cond_false, rSame_eq a b (by omega) (by omega) (decide (a.Args = b.Args)) (decide (a.Alts = b.Alts)) (by simp) (by simp),
    kSame_eq a b (by omega) (by omega) (decide (a.Args = b.Args)) (decide (a.Alts = b.Alts)) (by simp) (by simp), es, ev_retracelaw24_live]
  simp only [Option.bind_some, beq_self_eq_true, cond_true]
  rfl
end Go.Ab
