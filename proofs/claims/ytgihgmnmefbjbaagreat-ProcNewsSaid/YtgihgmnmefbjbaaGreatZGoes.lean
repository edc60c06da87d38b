/- ProcGoes, plainly. -/
import Derived.Test.YtgihgmnmefbjbaaGreatZChk
namespace Go.Ab
set_option linter.unusedVariables false

theorem goesR_len (c : T_api_Code) (p : T_api_Proc) (n : Int) : (goesR c p n).Vars = p.Vars ∧ (goesR c p n).Alts = [] := by
  unfold goesR
  cases endB c n <;> exact ⟨rfl, rfl⟩
def failsP (p : T_api_Proc) : T_api_Proc := ⟨p.Def, p.At, p.Vars, p.Fuel, 6, 0, 0, 0, 0, 0, []⟩
theorem law_pgoes (c : T_api_Code) (p : T_api_Proc) (a : Int) (dn : ∀ d ∈ c.Defs, d.Name.size ≤ maxLen) (cn : ∀ d ∈ c.Chans, d.Name.size ≤ maxLen) : F_retracelaw22_ProcGoes c p a = some true := by
  have ht : F_retracelaw22_ProcGoes_J1 c p a true = some true := by
    unfold F_retracelaw22_ProcGoes_J1
    rw [cond_true, ev_retracelaw22_live]; rfl
  unfold F_retracelaw22_ProcGoes
  obtain ⟨b, eb, hb⟩ := large_eq c p
  rw [eb, Option.bind_some]
  cases b with
  | true => rw [cond_true, ht]
  | false =>
  obtain ⟨h1, h2, h3, h4, h5⟩ := hb rfl
  have h : CSmall c := ⟨h1, h2, h3, dn, cn⟩
  obtain ⟨r, er, -⟩ := ok_Right c h
  rw [er, cond_false, Option.bind_some]
  cases r with
  | false => exact ht
  | true =>
  have hz := right_sz h er
  obtain ⟨n, en, eg, eg2⟩ := goes_eq c h1 p (by omega) a
  obtain ⟨g1, g2⟩ := goesR_len c p n
  have ef : F_proc_Fails c p = some (failsP p) := by
    unfold F_proc_Fails F_slices_Clone_int_int failsP
    rw [grd_t (by simp; omega)]; simp
  have ef2 : F_retraceref22_Fails p = some (failsP p) := by
    unfold F_retraceref22_Fails failsP
    rw [grd_t (by simp; omega)]; simp
  have j3t : F_retracelaw22_ProcGoes_J3 c (goesR c p n) true = some true := by
    unfold F_retracelaw22_ProcGoes_J3
    rw [cond_true, ev_retracelaw22_live]; rfl
  unfold F_retracelaw22_ProcGoes_J1
  have s1 := same_self (goesR c p n) (by rw [g1]; omega) (by rw [g2]; simp)
  have s2 := same_self (failsP p) (by show p.Vars.length < _; omega) (by unfold failsP; simp)
  rw [eg, ef, eg2, ef2]
  simp only [Bool.not_true, cond_false, Option.bind_some, s1, s2]
  unfold F_retracelaw22_ProcGoes_J2
  rw [cond_false, isP_eq c h p h5, Option.bind_some]
  cases ei : isPB c p with
  | false => exact j3t
  | true =>
  simp only [Bool.not_true, cond_false]
  rw [en, Option.bind_some, rests_eq c h2, Option.bind_some]
  cases er2 : restsB c p.Def n with
  | false => exact j3t
  | true =>
  unfold F_retracelaw22_ProcGoes_J3 F_retracelaw22_ProcGoes_J4
  rw [check_eq c h hz (goesR c p n) (by rw [g1]; exact h4) (by rw [g2]; simp), isP_goes ei er2, ev_retracelaw22_live]
  rfl
end Go.Ab
