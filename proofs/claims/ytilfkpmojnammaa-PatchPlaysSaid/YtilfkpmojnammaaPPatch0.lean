/- The laws of patch, plainly. -/
import Derived.Test.YtilfkpmojnammaaGP
import Derived.Test.YtilfkpmojnammaaGPX
import Derived.Test.YtilfkpmojnammaaAbPlain
namespace Go.Ab
set_option linter.unusedVariables false

def pt_w (op : Int) : Int := if op = 19 then 2 else if op = 6 ∨ op = 7 ∨ op = 8 ∨ op = 20 ∨ op = 21 ∨ op = 22 then 1 else 0
def pt_t (x : T_api_Ins) : Int × Bool := if pt_w x.Op = 1 then (x.A, true) else if pt_w x.Op = 2 then (x.B, true) else (0, false)
def pt_a (x : T_api_Ins) (n : Int) : T_api_Ins := if pt_w x.Op = 1 then ⟨x.Op, n, x.B⟩ else if pt_w x.Op = 2 then ⟨x.Op, x.A, n⟩ else x
theorem pt_which (op : Int) : F_retraceref17_Which op = some (pt_w op) := by
  unfold F_retraceref17_Which F_retraceref17_Which_J1 pt_w
  by_cases h1 : op = 19
  · simp [h1]
  by_cases h2 : op = 6
  · simp [h2]
  by_cases h3 : op = 7
  · simp [h3]
  by_cases h4 : op = 8
  · simp [h4]
  by_cases h5 : op = 20
  · simp [h5]
  by_cases h6 : op = 21
  · simp [h6]
  by_cases h7 : op = 22
  · simp [h7]
  simp [beqf h1, beqf h2, beqf h3, beqf h4, beqf h5, beqf h6, beqf h7, h1, h2, h3, h4, h5, h6, h7]
theorem pt_target (x : T_api_Ins) : F_patch_Target x = some (pt_t x) := by
  unfold F_patch_Target F_patch_Target_J1 pt_t pt_w
  by_cases h1 : x.Op = 19
  · simp [h1]
  by_cases h2 : x.Op = 6
  · simp [h2]
  by_cases h3 : x.Op = 7
  · simp [h3]
  by_cases h4 : x.Op = 8
  · simp [h4]
  by_cases h5 : x.Op = 20
  · simp [h5]
  by_cases h6 : x.Op = 21
  · simp [h6]
  by_cases h7 : x.Op = 22
  · simp [h7]
  simp [beqf h1, beqf h2, beqf h3, beqf h4, beqf h5, beqf h6, beqf h7, h1, h2, h3, h4, h5, h6, h7]
theorem pt_aim (x : T_api_Ins) (n : Int) : F_patch_Aim x n = some (pt_a x n) := by
  unfold F_patch_Aim
  rw [pt_target]
  simp only [Option.bind_some, F_patch_Aim_J1]
  unfold pt_t pt_a pt_w
  by_cases h1 : x.Op = 19
  · simp [h1]
  by_cases h2 : x.Op = 6 ∨ x.Op = 7 ∨ x.Op = 8 ∨ x.Op = 20 ∨ x.Op = 21 ∨ x.Op = 22
  · simp [h1, h2, beqf h1]
  · simp [h1, h2]
theorem pt_aimR (x : T_api_Ins) (n : Int) : F_retraceref17_Aim x n = some (pt_a x n) := by
  unfold F_retraceref17_Aim
  rw [pt_which]
  simp only [Option.bind_some, F_retraceref17_Aim_J1]
  unfold pt_a
  by_cases h1 : pt_w x.Op = 1
  · simp [h1]
  by_cases h2 : pt_w x.Op = 2
  · simp [h2]
  · simp [h1, h2, beqf h1, beqf h2]
theorem pt_ins (x y : T_api_Ins) : ((x.Op == y.Op) && ((x.A == y.A) && ((x.B == y.B) && true))) = true ↔ x = y := by
  cases x; cases y; simp

/-- Instructions alike. -/
theorem pt_same (a b : List T_api_Ins) (hl : a.length < 1000000) (d : Bool) (hd : d = true ↔ a = b) : F_retraceref16_Same a b = some d := by
  unfold F_retraceref16_Same
  by_cases h : a.length = b.length
  · have : (((a.length : Int)) != ((b.length : Int))) = false := by simp; omega
    rw [this, cond_false]
    refine Loop_same a b h (fun x y => ((x.Op == y.Op) && ((x.A == y.A) && ((x.B == y.B) && true)))) pt_ins (by omega) (fun k x y hx hy => ?_) ?_ d hd
    · have hk := lt_of_getL hx
      show F_retraceref16_Same_L1 a b (k : Int) = _
      unfold F_retraceref16_Same_L1
      rw [lAtn, lAtn, hx, hy]
      have : decide ((k : Int) < (a.length : Int)) = true := by simp; omega
      rw [this, cond_true]
      simp only [Option.bind_some]
      cases ((x.Op == y.Op) && ((x.A == y.A) && ((x.B == y.B) && true))) <;> rfl
    · show F_retraceref16_Same_L1 a b (a.length : Int) = _
      unfold F_retraceref16_Same_L1
      simp
  · have : (((a.length : Int)) != ((b.length : Int))) = true := by simp; omega
    rw [this, cond_true]
    cases d with
    | false => rfl
    | true => have := hd.1 rfl; subst this; exact absurd rfl h

end Go.Ab
