/- What fits, what rests, what may be: the program says what the reference says. -/
import Derived.Test.YtholdfpblliiiaaQB
namespace Go.Ab
set_option linter.unusedVariables false
set_option maxRecDepth 10000
theorem tak0 (x : T_api_Ins) (h : x.Op = 1 ∨ x.Op = 23 ∨ x.Op = 24 ∨ x.Op = 25) : takN x = 0 := by
  obtain ⟨r, hr, _⟩ := ok_IRight x
  unfold takN F_retraceref16_Takes
  rw [hr]
  obtain ⟨op, a, b⟩ := x
  rcases h with h | h | h | h <;> (replace h : op = _ := h; subst h; cases r <;> rfl)
theorem fits_eq (x : T_api_Ins) (t : T_code_there) : ∃ nx, F_code_fits x t = some (nx, fitB x t.n t.choose) ∧ (fitB x t.n t.choose = true → nx = ⟨w64 (w64 (t.n - takN x) + givN x), t.choose || (x.Op == 25)⟩) := by
  obtain ⟨n, ch⟩ := t
  have hf := fit_s x n ch true
  generalize fitB x n ch = f at hf
  unfold F_retraceref20_fits F_retraceref20_fits_J1 F_retraceref20_fits_J2 F_retraceref20_fits_J3 F_retraceref20_fits_J4 F_retraceref20_fits_J5 F_retraceref20_fits_J6 at hf
  unfold F_code_fits F_code_fits_J2 F_code_fits_J3 F_code_fits_J1
  rw [takes_eq, tak_s, gives_eq, giv_s, chooses_eq, chos_s, acts_eq, acts_s]
  rw [tak_s, chos_s, acts_s] at hf
  simp only [Option.bind_some] at hf ⊢
  by_cases h1 : x.Op = 1 ∨ x.Op = 24 ∨ x.Op = 25
  · have e0 : takN x = 0 := tak0 x (by omega)
    have key : (cond (decide (w64 (n - takN x) < 0)) (some false) (cond (n == 0) (some (!ch)) (some false))) = some f := by
      rcases h1 with h | h | h <;> rw [h] at hf <;> exact hf
    refine ⟨⟨w64 (w64 (n - takN x) + givN x), x.Op == 25⟩, ?_, ?_⟩
    · have : f = ((n == 0) && ((ch == false) && true)) := by
        by_cases hn : n = 0
        · subst hn
          rw [e0] at key
          have := Option.some.inj key
          rw [← this]
          cases ch <;> rfl
        · rw [beqf hn] at key ⊢
          by_cases hw : w64 (n - takN x) < 0
          · rw [dct hw] at key; exact (Option.some.inj key).symm
          · rw [dcf hw] at key; exact (Option.some.inj key).symm
      rw [this]
      rcases h1 with h | h | h <;> rw [h] <;> rfl
    · intro hft
      subst hft
      have hch : ch = false := by
        by_cases hw : w64 (n - takN x) < 0
        · rw [dct hw] at key; cases key
        · rw [dcf hw, cond_false] at key
          cases hn : n == 0
          · rw [hn] at key; cases key
          · rw [hn] at key
            have := Option.some.inj key
            simpa using this
      rw [hch]; rfl
  · have n1 : (x.Op == 1) = false := beqf (by omega)
    have n2 : (x.Op == 24) = false := beqf (by omega)
    have n3 : (x.Op == 25) = false := beqf (by omega)
    rw [n1, n2, n3] at hf ⊢
    simp only [cond_false, Bool.or_false] at hf ⊢
    refine ⟨⟨w64 (w64 (n - takN x) + givN x), ch⟩, ?_, fun _ => rfl⟩
    by_cases h2 : x.Op = 23
    · have e0 : takN x = 0 := tak0 x (by omega)
      rw [beqt h2] at hf ⊢
      simp only [cond_true] at hf ⊢
      congr 2
      by_cases hn : n = 0
      · subst hn
        rw [e0, dcf (show ¬ w64 (0 - 0) < 0 by decide)] at hf
        have := Option.some.inj hf
        rw [← this]
        cases ch <;> rfl
      · rw [beqf hn] at hf ⊢
        by_cases hw : w64 (n - takN x) < 0
        · rw [dct hw] at hf; exact Option.some.inj hf
        · rw [dcf hw] at hf; exact Option.some.inj hf
    · rw [beqf h2] at hf ⊢
      simp only [cond_false] at hf ⊢
      by_cases hw : w64 (n - takN x) < 0
      · rw [dct hw] at hf
        have hf := Option.some.inj hf
        subst hf
        have hz : (w64 (n - takN x) == 0) = false := beqf (by omega)
        rw [hz, dcf (show ¬ 0 ≤ w64 (n - takN x) by omega)]
        cases chosB x.Op <;> cases actsB x.Op <;> cases x.Op == 18 <;> rfl
      · rw [dcf hw] at hf
        rw [dct (show 0 ≤ w64 (n - takN x) by omega)]
        simp only [cond_false] at hf
        revert hf
        cases chosB x.Op <;> cases actsB x.Op <;> cases x.Op == 18 <;> cases (w64 (n - takN x) == 0) <;> cases ch <;> (intro hf; cases hf; rfl)
end Go.Ab
