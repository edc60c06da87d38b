/- Single instructions: what the program says of them, and what the reference says. -/
import Derived.Test.YtholdfpblliiiaaQA
import Derived.Test.YtholdfpblliiiaaQPSmall
namespace Go.Ab
set_option linter.unusedVariables false
set_option maxRecDepth 10000
theorem opc (n : Int) : (n < 1 ∨ 25 < n) ∨ n = 1 ∨ n = 2 ∨ n = 3 ∨ n = 4 ∨ n = 5 ∨ n = 6 ∨ n = 7 ∨ n = 8 ∨ n = 9 ∨ n = 10 ∨ n = 11 ∨ n = 12 ∨ n = 13 ∨ n = 14 ∨ n = 15 ∨ n = 16 ∨ n = 17 ∨ n = 18 ∨ n = 19 ∨ n = 20 ∨ n = 21 ∨ n = 22 ∨ n = 23 ∨ n = 24 ∨ n = 25 := by omega
theorem opo {n : Int} (h : n < 1 ∨ 25 < n) (k : Int) (h1 : 1 ≤ k) (h2 : k ≤ 25) : (n == k) = false := beqf (by omega)
theorem acts_eq (p : Int) : F_code_acts p = F_retraceref20_Acts p := by
  rcases opc p with h | rfl | rfl | rfl | rfl | rfl | rfl | rfl | rfl | rfl | rfl | rfl | rfl | rfl | rfl | rfl | rfl | rfl | rfl | rfl | rfl | rfl | rfl | rfl | rfl | rfl
  · unfold F_code_acts F_retraceref20_Acts F_code_acts_J1 F_retraceref20_Acts_J1
    simp only [opo h 4 (by decide) (by decide), opo h 10 (by decide) (by decide), opo h 11 (by decide) (by decide), opo h 12 (by decide) (by decide), opo h 13 (by decide) (by decide), opo h 14 (by decide) (by decide), opo h 15 (by decide) (by decide), opo h 16 (by decide) (by decide), opo h 17 (by decide) (by decide), cond_false]
    by_cases h2 : 12 ≤ p
    · rw [dct h2, dcf (show ¬ p ≤ 17 by omega)]; rfl
    · rw [dcf h2]; rfl
  all_goals rfl
theorem chooses_eq (p : Int) : F_code_chooses p = F_retraceref20_Chooses p := by
  rcases opc p with h | rfl | rfl | rfl | rfl | rfl | rfl | rfl | rfl | rfl | rfl | rfl | rfl | rfl | rfl | rfl | rfl | rfl | rfl | rfl | rfl | rfl | rfl | rfl | rfl | rfl
  · unfold F_code_chooses F_retraceref20_Chooses F_code_chooses_J1 F_retraceref20_Chooses_J1
    simp only [opo h 19 (by decide) (by decide), opo h 20 (by decide) (by decide), opo h 21 (by decide) (by decide), opo h 22 (by decide) (by decide), cond_false]
    by_cases h2 : 19 ≤ p
    · rw [dct h2, dcf (show ¬ p ≤ 22 by omega)]; rfl
    · rw [dcf h2]; rfl
  all_goals rfl
theorem target_eq (p : T_api_Ins) : F_patch_Target p = F_retraceref20_target p := by
  obtain ⟨op, a, b⟩ := p
  rcases opc op with h | rfl | rfl | rfl | rfl | rfl | rfl | rfl | rfl | rfl | rfl | rfl | rfl | rfl | rfl | rfl | rfl | rfl | rfl | rfl | rfl | rfl | rfl | rfl | rfl | rfl
  · unfold F_patch_Target F_retraceref20_target F_patch_Target_J1 F_retraceref17_Which F_retraceref17_Which_J1
    simp only [opo h 6 (by decide) (by decide), opo h 7 (by decide) (by decide), opo h 8 (by decide) (by decide), opo h 19 (by decide) (by decide), opo h 20 (by decide) (by decide), opo h 21 (by decide) (by decide), opo h 22 (by decide) (by decide), cond_false]
    rfl
  all_goals rfl
theorem rows_ok : ∃ l, F_ins_rows = some l ∧ l.length = 26 := ⟨_, rfl, rfl⟩
theorem find_out {op : Int} (h : op < 1 ∨ 25 < op) : F_ins_find op = some ((⟨(⟨#[]⟩ : ByteArray), 0, 0, 0⟩ : T_ins_row), false) := by
  unfold F_ins_find F_ins_find_J1
  by_cases h1 : op < 1
  · rw [dct h1]; rfl
  · rw [dcf h1, dct (show 25 < op by omega)]; rfl
def wideN (a : Int) : Int := if a = 3 ∨ a = 4 then 1 else if 5 ≤ a ∧ a ≤ 17 then 2 else 0
theorem wide_eq (a : Int) : F_arith_Wide a = some (wideN a) := by
  unfold F_arith_Wide F_arith_Wide_J1 F_arith_Wide_J2 wideN
  by_cases h3 : a = 3
  · subst h3; rfl
  by_cases h4 : a = 4
  · subst h4; rfl
  rw [beqf h3, beqf h4, if_neg (by omega)]
  by_cases h5 : 5 ≤ a
  · rw [dct h5]
    by_cases h6 : a ≤ 17
    · rw [dct h6, if_pos ⟨h5, h6⟩]; rfl
    · rw [dcf h6, if_neg (by omega)]; rfl
  · rw [dcf h5, if_neg (by omega)]; rfl
theorem rwide_eq (a : Int) : F_retraceref15_Wide a = some (wideN a) := wide_eq a
theorem right_eq (p : T_api_Ins) : F_ins_Right p = F_retraceref16_Right p := by
  obtain ⟨op, a, b⟩ := p
  rcases opc op with h | rfl | rfl | rfl | rfl | rfl | rfl | rfl | rfl | rfl | rfl | rfl | rfl | rfl | rfl | rfl | rfl | rfl | rfl | rfl | rfl | rfl | rfl | rfl | rfl | rfl
  · unfold F_ins_Right
    rw [find_out h]
    show some false = _
    obtain ⟨n, hn, _⟩ := ok_Nums op
    unfold F_retraceref16_Right
    rw [hn]
    simp only [Option.bind_some]
    by_cases h1 : op < 1
    · rw [dct h1]; rfl
    · rw [dcf h1, dct (show 25 < op by omega)]; rfl
  case inr.inr.inr.inr.inr.inl =>
    show cond (b != 0) (some false) ((F_arith_Wide a).bind fun y => some (decide (0 < y))) = cond (b != 0) (some false) (cond (decide (a < 3)) (some false) (cond (decide (17 < a)) (some false) (some true)))
    rw [wide_eq]
    unfold wideN
    cases b != 0
    · simp only [cond_false, Option.bind_some]
      by_cases h1 : a < 3
      · rw [dct h1, if_neg (by omega), if_neg (by omega)]; rfl
      · rw [dcf h1]
        by_cases h2 : 17 < a
        · rw [dct h2, if_neg (by omega), if_neg (by omega)]; rfl
        · rw [dcf h2]
          by_cases h3 : a = 3 ∨ a = 4
          · rw [if_pos h3]; rfl
          · rw [if_neg h3, if_pos (by omega)]; rfl
    · rfl
  case inr.inr.inr.inr.inr.inr.inr.inr.inr.inr.inr.inr.inr.inr.inl =>
    show cond (decide (0 ≤ b)) (some true) (some false) = cond (decide (b < 0)) (some false) (some true)
    by_cases h : 0 ≤ b
    · rw [dct h, dcf (show ¬ b < 0 by omega)]; rfl
    · rw [dcf h, dct (show b < 0 by omega)]; rfl
  all_goals rfl
theorem takes_eq (p : T_api_Ins) : F_ins_Takes p = F_retraceref16_Takes p := by
  obtain ⟨r, hr, _⟩ := ok_IRight p
  unfold F_ins_Takes F_retraceref16_Takes
  rw [right_eq, hr]
  obtain ⟨op, a, b⟩ := p
  rcases opc op with h | rfl | rfl | rfl | rfl | rfl | rfl | rfl | rfl | rfl | rfl | rfl | rfl | rfl | rfl | rfl | rfl | rfl | rfl | rfl | rfl | rfl | rfl | rfl | rfl | rfl
  · have : F_retraceref16_Right ⟨op, a, b⟩ = some false := by
      rw [← right_eq]
      unfold F_ins_Right
      rw [find_out h]; rfl
    rw [this] at hr
    cases hr
    rw [find_out h]; rfl
  all_goals first
    | (cases r <;> rfl; done)
    | (cases r
       · rfl
       · show (F_arith_Wide a).bind _ = (F_retraceref15_Wide a).bind _
         rw [wide_eq, rwide_eq])
theorem gives_eq (p : T_api_Ins) : F_ins_Gives p = F_retraceref16_Gives p := by
  obtain ⟨r, hr, _⟩ := ok_IRight p
  unfold F_ins_Gives F_retraceref16_Gives
  rw [right_eq, hr]
  obtain ⟨op, a, b⟩ := p
  rcases opc op with h | rfl | rfl | rfl | rfl | rfl | rfl | rfl | rfl | rfl | rfl | rfl | rfl | rfl | rfl | rfl | rfl | rfl | rfl | rfl | rfl | rfl | rfl | rfl | rfl | rfl
  · have : F_retraceref16_Right ⟨op, a, b⟩ = some false := by
      rw [← right_eq]
      unfold F_ins_Right
      rw [find_out h]; rfl
    rw [this] at hr
    cases hr
    rw [find_out h]; rfl
  all_goals (cases r <;> rfl)
/-- What is had of something that answers. -/
theorem some_of {α : Type} {x : Option α} (h : Ok x) (d : α) : x = some (x.getD d) := by
  obtain ⟨a, e, _⟩ := h; rw [e]; rfl
noncomputable def actsB (p : Int) : Bool := (F_retraceref20_Acts p).getD false
noncomputable def chosB (p : Int) : Bool := (F_retraceref20_Chooses p).getD false
noncomputable def tgt (p : T_api_Ins) : Int × Bool := (F_retraceref20_target p).getD (0, false)
noncomputable def takN (p : T_api_Ins) : Int := (F_retraceref16_Takes p).getD 0
noncomputable def givN (p : T_api_Ins) : Int := (F_retraceref16_Gives p).getD 0
theorem acts_s (p : Int) : F_retraceref20_Acts p = some (actsB p) := some_of (ok_Acts p) _
theorem chos_s (p : Int) : F_retraceref20_Chooses p = some (chosB p) := some_of (ok_Chooses p) _
theorem tgt_s (p : T_api_Ins) : F_retraceref20_target p = some (tgt p) := some_of (ok_target p) _
theorem tak_s (p : T_api_Ins) : F_retraceref16_Takes p = some (takN p) := some_of (ok_Takes p) _
theorem giv_s (p : T_api_Ins) : F_retraceref16_Gives p = some (givN p) := some_of (ok_Gives p) _
/-- What fits, and what is there behind it. -/
noncomputable def fitB (x : T_api_Ins) (n : Int) (ch : Bool) : Bool := (F_retraceref20_fits x ⟨true, n, ch⟩).getD false
theorem fit_s (x : T_api_Ins) (n : Int) (ch b : Bool) : F_retraceref20_fits x ⟨b, n, ch⟩ = some (fitB x n ch) := some_of (ok_fits x ⟨true, n, ch⟩) _
end Go.Ab
