/- Places of code, plainly. -/
import Derived.Test.YtholdfpblliiiaaQPRight2
import Derived.Test.YtholdfpblliiiaaGQX
import Derived.Test.YtholdfpblliiiaaAbScan
namespace Go.Ab
set_option linter.unusedVariables false
def routine (c : T_api_Code) (a : Int) : Int := if 0 ≤ a ∧ a < c.Ins.length then c.Defs.zipIdx.foldl (fun s x => if x.1.Entry ≤ a then (x.2 : Int) else s) (-1) else -1
theorem routine_eq (c : T_api_Code) (hd : c.Defs.length ≤ 40) (a : Int) : F_retraceref20_Routine c a = some (routine c a) := by
  unfold F_retraceref20_Routine routine
  by_cases h : 0 ≤ a ∧ a < c.Ins.length
  · rw [if_pos h]
    refine Loop_fold c.Defs.zipIdx (by rw [List.length_zipIdx]; omega) (fun s x => if x.1.Entry ≤ a then (x.2 : Int) else s) id (fun s i => (s, i)) (fun _ _ => True) (fun k hk s _ => ?_) (fun _ _ _ _ => trivial) (fun s _ => ?_) (-1) trivial
    · rw [List.length_zipIdx] at hk
      show F_retraceref20_Routine_L3 c a s (k : Int) = _
      unfold F_retraceref20_Routine_L3 F_retraceref20_Routine_J1 F_retraceref20_Routine_J2
      rw [dct (by omega), dct h.1, dct h.2, lAt_lt hk]
      simp only [cond_true, Option.bind_some, List.getElem_zipIdx, Nat.zero_add]
      by_cases e : c.Defs[k].Entry ≤ a
      · rw [dct e, if_pos e]; rfl
      · rw [dcf e, if_neg e]; rfl
    · show F_retraceref20_Routine_L3 c a s ((c.Defs.zipIdx).length : Int) = _
      unfold F_retraceref20_Routine_L3 F_retraceref20_Routine_J1
      rw [List.length_zipIdx, dcf (by omega)]; rfl
  · rw [if_neg h]
    refine Loop_inr ?_
    show F_retraceref20_Routine_L3 c a (-1) 0 = _
    unfold F_retraceref20_Routine_L3 F_retraceref20_Routine_J1
    by_cases h0 : (0 : Int) ≤ a
    · rw [dct h0, dcf (show ¬ a < (c.Ins.length : Int) by omega)]
      cases decide ((0 : Int) < (c.Defs.length : Int)) <;> rfl
    · rw [dcf h0]
      cases decide ((0 : Int) < (c.Defs.length : Int)) <;> rfl
theorem routine_rng {c : T_api_Code} {a : Int} (h : 0 ≤ routine c a) : 0 ≤ a ∧ a < c.Ins.length := by
  unfold routine at h
  split at h
  · assumption
  · omega
theorem settle_eq (c : T_api_Code) (hi : c.Ins.length ≤ 150) (a : Int) : F_code_Settle c a = F_retraceref20_Settle c a := by
  unfold F_code_Settle F_retraceref20_Settle
  congr 1
  funext s
  unfold F_code_Settle_L2 F_retraceref20_Settle_L2
  rw [w64i (by omega) (by omega)]
  have : decide (s.2 < (c.Ins.length : Int) + 1) = decide (s.2 ≤ (c.Ins.length : Int)) := by
    by_cases e : s.2 ≤ (c.Ins.length : Int)
    · rw [dct e, dct (by omega)]
    · rw [dcf e, dcf (by omega)]
  rw [this]
  rfl
/-- The routine of a place, from behind. -/
def back (c : T_api_Code) (a : Int) : Nat → Int
  | 0 => -1
  | k + 1 => match c.Defs[k]? with | some d => if d.Entry ≤ a then (k : Int) else back c a k | none => -1
theorem back_fold (c : T_api_Code) (a : Int) : ∀ k, k ≤ c.Defs.length → (c.Defs.zipIdx.take k).foldl (fun s x => if x.1.Entry ≤ a then (x.2 : Int) else s) (-1) = back c a k
  | 0, _ => rfl
  | k + 1, h => by
    have hz : k < c.Defs.zipIdx.length := by rw [List.length_zipIdx]; omega
    rw [List.take_succ_eq_append_getElem hz, List.foldl_append, back_fold c a k (by omega)]
    simp only [List.foldl_cons, List.foldl_nil, List.getElem_zipIdx, Nat.zero_add, back]
    rw [List.getElem?_eq_getElem (by omega)]
theorem back_loop (c : T_api_Code) (hd : c.Defs.length ≤ 40) (a : Int) : ∀ k, k ≤ c.Defs.length → Loop (fun s : Int => F_slices_Backward_retrace_api_Def_retrace_api_Def_1_L3 a 0 c.Defs s) ((k : Int) - 1) = some (if 0 ≤ back c a k then .inl (back c a k) else .inr ())
  | 0, _ => by
    refine Loop_inr ?_
    unfold F_slices_Backward_retrace_api_Def_retrace_api_Def_1_L3
    rfl
  | k + 1, h => by
    have e1 : ((k + 1 : Nat) : Int) - 1 = (k : Int) := by omega
    rw [e1]
    have hstep : F_slices_Backward_retrace_api_Def_retrace_api_Def_1_L3 a 0 c.Defs (k : Int) = (if c.Defs[k].Entry ≤ a then some (.inr (.inl (k : Int))) else some (.inl ((k : Int) - 1))) := by
      unfold F_slices_Backward_retrace_api_Def_retrace_api_Def_1_L3 F_R_code_Routine_0 F_slices_Backward_retrace_api_Def_retrace_api_Def_1_J1 F_slices_Backward_retrace_api_Def_retrace_api_Def_1_J2
      rw [dct (by omega), lAt_lt (by omega), w64i (by omega) (by omega)]
      simp only [cond_true, Option.bind_some]
      by_cases e : c.Defs[k].Entry ≤ a
      · rw [dct e, if_pos e]; rfl
      · rw [dcf e, if_neg e]; rfl
    have hb : back c a (k + 1) = if c.Defs[k].Entry ≤ a then (k : Int) else back c a k := by
      simp only [back]
      rw [List.getElem?_eq_getElem (by omega)]
    by_cases e : c.Defs[k].Entry ≤ a
    · rw [if_pos e] at hstep hb
      rw [Loop_inr hstep, hb, if_pos (by omega)]
    · rw [if_neg e] at hstep hb
      rw [Loop_inl hstep, back_loop c hd a k (by omega), hb]
theorem croutine_eq (c : T_api_Code) (hd : c.Defs.length ≤ 40) (a : Int) : F_code_Routine c a = some (routine c a) := by
  have hj : F_code_Routine_J1 c a false = some (back c a c.Defs.length) := by
    unfold F_code_Routine_J1 F_slices_Backward_retrace_api_Def_retrace_api_Def F_slices_Backward_retrace_api_Def_retrace_api_Def_1
    rw [cond_false]
    simp only [Option.bind_some]
    rw [w64i (by omega) (by omega), back_loop c hd a _ (Nat.le_refl _)]
    simp only [Option.bind_some]
    split
    · rfl
    · rename_i hn
      have : ∀ k, back c a k = -1 ∨ 0 ≤ back c a k := by
        intro k
        induction k with
        | zero => exact .inl rfl
        | succ k ih =>
          simp only [back]
          split
          · split
            · right; omega
            · exact ih
          · exact .inl rfl
      rcases this c.Defs.length with h | h
      · rw [h]; rfl
      · exact absurd h hn
  have ht : F_code_Routine_J1 c a true = some (-1) := rfl
  unfold F_code_Routine routine
  by_cases h0 : a < 0
  · rw [dct h0, cond_true, ht, if_neg (by omega)]
  · rw [dcf h0, cond_false]
    by_cases h1 : (c.Ins.length : Int) ≤ a
    · rw [dct h1, ht, if_neg (by omega)]
    · rw [dcf h1, hj, if_pos (by omega), ← back_fold c a c.Defs.length (Nat.le_refl _), List.take_of_length_le (by rw [List.length_zipIdx]; exact Nat.le_refl _)]

theorem stmt_eq (c : T_api_Code) (a : Int) : F_code_Stmt c a = F_retraceref20_Stmt c a := by
  unfold F_code_Stmt F_retraceref20_Stmt F_code_Stmt_J1 F_retraceref20_Stmt_J1
  by_cases h0 : a < 0
  · rw [dct h0, dcf (show ¬ 0 ≤ a by omega)]; rfl
  · rw [dcf h0, dct (show 0 ≤ a by omega)]
    by_cases h1 : (c.Ins.length : Int) ≤ a
    · rw [dct h1, dcf (show ¬ a < (c.Ins.length : Int) by omega)]; rfl
    · rw [dcf h1, dct (show a < (c.Ins.length : Int) by omega)]
      obtain ⟨y, ey, _⟩ := lAt_ok (l := c.Ins) (i := a) (by omega) (by omega)
      simp only [cond_false, cond_true, ey, Option.bind_some, bne]
      cases y.Op == 1 <;> rfl
theorem ok_Stmt (c : T_api_Code) (a : Int) : Ok (F_retraceref20_Stmt c a) := by
  unfold F_retraceref20_Stmt F_retraceref20_Stmt_J1
  refine OkP.condD (fun h0 => OkP.condD (fun h1 => OkP.at h0 h1 fun y ey => ?_) (fun _ => OkP.rett _)) (fun _ => OkP.rett _)
  exact OkP.condB (fun _ => OkP.at h0 h1 fun _ _ => OkP.rett _) (fun _ => OkP.rett _)
theorem large_eq (c : T_api_Code) : ∃ b, F_retracelaw20_large c = some b ∧ (b = false → c.Ins.length ≤ 150 ∧ c.Defs.length ≤ 40 ∧ c.Chans.length ≤ 80) := by
  unfold F_retracelaw20_large F_retracelaw20_large_J1
  by_cases h1 : (150 : Int) < c.Ins.length
  · exact ⟨true, by rw [dct h1]; rfl, fun h => by cases h⟩
  rw [dcf h1, cond_false]
  by_cases h2 : (40 : Int) < c.Defs.length
  · exact ⟨true, by rw [dct h2]; rfl, fun h => by cases h⟩
  rw [dcf h2, cond_false]
  by_cases h3 : (80 : Int) < c.Chans.length
  · exact ⟨true, by rw [dct h3], fun h => by cases h⟩
  exact ⟨false, by rw [dcf h3], fun _ => ⟨by omega, by omega, by omega⟩⟩
theorem law_places (c : T_api_Code) (a : Int) : F_retracelaw20_CodePlaces c a = some true := by
  unfold F_retracelaw20_CodePlaces F_retracelaw20_CodePlaces_J1
  obtain ⟨b, hb, hl⟩ := large_eq c
  rw [hb, ev_retracelaw20_live]
  cases b with
  | true => rfl
  | false =>
  obtain ⟨h1, h2, h3⟩ := hl rfl
  obtain ⟨s, hs, _⟩ := ok_Settle c h1 a
  obtain ⟨t, ht, _⟩ := ok_Stmt c a
  simp only [Option.bind_some, cond_false, settle_eq c h1, hs, croutine_eq c h2, routine_eq c h2, stmt_eq, ht, beq_self_eq_true, cond_true]
end Go.Ab
