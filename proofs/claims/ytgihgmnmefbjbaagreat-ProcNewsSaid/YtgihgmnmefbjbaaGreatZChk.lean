/- proc.Check, plainly. -/
import Derived.Test.YtgihgmnmefbjbaaGreatZSz
import Derived.Test.YtgihgmnmefbjbaaGreatZProc
namespace Go.Ab
set_option linter.unusedVariables false

theorem within_eq (a b : Int) : F_proc_within a b = some (decide (0 ≤ a) && decide (a ≤ b)) := by
  unfold F_proc_within F_proc_within_J1
  cases decide (0 ≤ a) <;> rfl
theorem within_from {a b : Int} (h0 : -9223372036854775808 < b) (h1 : b < 9223372036854775808) : F_proc_within a (w64 (b - 1)) = some (fromB a b) := by
  rw [within_eq, w64i (by omega) (by omega)]
  unfold fromB
  congr 2
  rw [Bool.eq_iff_iff]
  simp only [decide_eq_true_eq]
  omega

/-- The routine of a place, from behind. -/
def back (c : T_api_Code) (a : Int) : Nat → Int
  | 0 => -1
  | k + 1 => match c.Defs[k]? with | some d => if d.Entry ≤ a then (k : Int) else back c a k | none => -1
theorem back_fold (c : T_api_Code) (a : Int) : ∀ k, k ≤ c.Defs.length → (c.Defs.zipIdx.take k).foldl (fun s x => if x.1.Entry ≤ a then (x.2 : Int) else s) (-1) = back c a k
  | 0, _ => rfl
  | k + 1, h => by
    have hz : k < c.Defs.zipIdx.length := by rw [List.length_zipIdx]; omega
    rw [List.take_succ_eq_append_getElem hz, List.foldl_append, back_fold c a k (by omega)]
    simp only [List.foldl_cons, List.foldl_nil, List.getElem_zipIdx, Nat.zero_add, back]
    rw [List.getElem?_eq_getElem (by omega)]
theorem back_loop (c : T_api_Code) (hd : c.Defs.length ≤ 40) (a : Int) : ∀ k, k ≤ c.Defs.length → Loop (fun s : Int => F_slices_Backward_retrace_api_Def_retrace_api_Def_1_L3 a 0 c.Defs s) ((k : Int) - 1) = some (if 0 ≤ back c a k then .inl (back c a k) else .inr ())
  | 0, _ => by
    refine Loop_inr ?_
    unfold F_slices_Backward_retrace_api_Def_retrace_api_Def_1_L3
    rfl
  | k + 1, h => by
    have e1 : ((k + 1 : Nat) : Int) - 1 = (k : Int) := by omega
    rw [e1]
    have hstep : F_slices_Backward_retrace_api_Def_retrace_api_Def_1_L3 a 0 c.Defs (k : Int) = (if c.Defs[k].Entry ≤ a then some (.inr (.inl (k : Int))) else some (.inl ((k : Int) - 1))) := by
      unfold F_slices_Backward_retrace_api_Def_retrace_api_Def_1_L3 F_R_code_Routine_0 F_slices_Backward_retrace_api_Def_retrace_api_Def_1_J1 F_slices_Backward_retrace_api_Def_retrace_api_Def_1_J2
      rw [dct (by omega), lAt_lt (by omega), w64i (by omega) (by omega)]
      simp only [cond_true, Option.bind_some]
      by_cases e : c.Defs[k].Entry ≤ a
      · rw [dct e, if_pos e]; rfl
      · rw [dcf e, if_neg e]; rfl
    have hb : back c a (k + 1) = if c.Defs[k].Entry ≤ a then (k : Int) else back c a k := by
      simp only [back]
      rw [List.getElem?_eq_getElem (by omega)]
    by_cases e : c.Defs[k].Entry ≤ a
    · rw [if_pos e] at hstep hb
      rw [Loop_inr hstep, hb, if_pos (by omega)]
    · rw [if_neg e] at hstep hb
      rw [Loop_inl hstep, back_loop c hd a k (by omega), hb]
theorem croutine_eq (c : T_api_Code) (hd : c.Defs.length ≤ 40) (a : Int) : F_code_Routine c a = some (routine c a) := by
  have hj : F_code_Routine_J1 c a false = some (back c a c.Defs.length) := by
    unfold F_code_Routine_J1 F_slices_Backward_retrace_api_Def_retrace_api_Def F_slices_Backward_retrace_api_Def_retrace_api_Def_1
    rw [cond_false]
    simp only [Option.bind_some]
    rw [w64i (by omega) (by omega), back_loop c hd a _ (Nat.le_refl _)]
    simp only [Option.bind_some]
    split
    · rfl
    · rename_i hn
      have : ∀ k, back c a k = -1 ∨ 0 ≤ back c a k := by
        intro k
        induction k with
        | zero => exact .inl rfl
        | succ k ih =>
          simp only [back]
          split
          · split
            · right; omega
            · exact ih
          · exact .inl rfl
      rcases this c.Defs.length with h | h
      · rw [h]; rfl
      · exact absurd h hn
  have ht : F_code_Routine_J1 c a true = some (-1) := rfl
  unfold F_code_Routine routine
  by_cases h0 : a < 0
  · rw [dct h0, cond_true, ht, if_neg (by omega)]
  · rw [dcf h0, cond_false]
    by_cases h1 : (c.Ins.length : Int) ≤ a
    · rw [dct h1, ht, if_neg (by omega)]
    · rw [dcf h1, hj, if_pos (by omega), ← back_fold c a c.Defs.length (Nat.le_refl _), List.take_of_length_le (by rw [List.length_zipIdx]; exact Nat.le_refl _)]

def opN (c : T_api_Code) (d a : Int) : Int := if 0 ≤ a ∧ a < c.Ins.length ∧ routine c a = d then (match lAt c.Ins a with | some x => x.Op | none => 0) else 0
theorem op_eq (c : T_api_Code) (hd : c.Defs.length ≤ 40) (p : T_api_Proc) (a : Int) : F_proc_op c p a = some (opN c p.Def a) := by
  unfold F_proc_op opN F_proc_op_J1
  rw [croutine_eq c hd]
  by_cases h0 : a < 0
  · rw [dct h0, if_neg (by omega)]; rfl
  · rw [dcf h0, cond_false]
    by_cases h1 : (c.Ins.length : Int) ≤ a
    · rw [dct h1, if_neg (by omega)]; rfl
    · rw [dcf h1, cond_false]
      obtain ⟨y, ey, _⟩ := lAt_ok (l := c.Ins) (i := a) (by omega) (by omega)
      simp only [Option.bind_some, bne, ey]
      by_cases h2 : routine c a = p.Def
      · rw [beqt h2, if_pos ⟨by omega, by omega, h2⟩]; rfl
      · rw [beqf h2, if_neg (fun q => h2 q.2.2)]; rfl
theorem op_is (c : T_api_Code) (d a o : Int) (hd : 0 ≤ d) (ho : o ≠ 0) : (opN c d a == o) = isB c d a o := by
  unfold opN isB
  by_cases h : 0 ≤ a ∧ a < c.Ins.length ∧ routine c a = d
  · rw [if_pos h, beqt h.2.2, dct hd]
    obtain ⟨y, ey, _⟩ := lAt_ok h.1 h.2.1
    rw [ey]; rfl
  · rw [if_neg h]
    have e1 : ((0 : Int) == o) = false := by simpa using fun e => ho e.symm
    rw [e1]
    by_cases h2 : routine c a = d
    · have := routine_rng (c := c) (a := a) (by omega)
      exact absurd ⟨this.1, this.2, h2⟩ h
    · rw [beqf h2]; rfl
theorem pchans_eq (c : T_api_Code) (hc : c.Chans.length ≤ 80) : F_proc_Chans c = some (chansN c) := by
  unfold F_proc_Chans chansN
  refine Loop_fold c.Chans (by omega) (fun s x => if 0 < x.Size then w64 (s + x.Size) else w64 (s + 1)) id (fun s i => (s, i)) (fun _ _ => True) (fun k hk s _ => ?_) (fun _ _ _ _ => trivial) (fun s _ => ?_) 0 trivial
  · show F_proc_Chans_L1 c s (k : Int) = _
    unfold F_proc_Chans_L1
    rw [dct (by omega), lAt_lt hk]
    simp only [cond_true, Option.bind_some]
    by_cases e : 0 < c.Chans[k].Size
    · rw [if_pos e]
      by_cases e2 : 1 > c.Chans[k].Size
      · omega
      · rw [if_neg e2]
    · rw [if_neg e, if_pos (by omega)]
  · show F_proc_Chans_L1 c s (c.Chans.length : Int) = _
    unfold F_proc_Chans_L1
    rw [dcf (by omega)]; rfl

theorem l1_eq (c : T_api_Code) (h : CSmall c) (p : T_api_Proc) (hd : 0 ≤ p.Def) : F_proc_looks_1 c p = some (isB c p.Def p.At 1) := by
  unfold F_proc_looks_1
  rw [op_eq c h.defs]
  simp only [Option.bind_some]
  rw [op_is c _ _ _ hd (by omega)]
theorem l2_eq (c : T_api_Code) (h : CSmall c) (p : T_api_Proc) (hd : 0 ≤ p.Def) (a : Int) : F_proc_looks_2 a c p = some (restsB c p.Def a) := by
  unfold F_proc_looks_2 F_proc_looks_2_J1
  rw [op_eq c h.defs]
  simp only [Option.bind_some]
  rw [op_is c _ _ _ hd (by omega), op_is c _ _ _ hd (by omega)]
  unfold restsB
  cases isB c p.Def a 1 <;> rfl
theorem l3_eq (c : T_api_Code) (h : CSmall c) (hz : CSz c) (n : Int) : F_proc_looks_3 n c = some (fromB n (chansN c)) := by
  unfold F_proc_looks_3
  have := chans_rng h hz
  rw [pchans_eq c h.chans]
  simp only [Option.bind_some]
  rw [within_from (by omega) (by omega)]
  rfl
theorem l4_eq (p : T_api_Proc) (hv : p.Vars.length ≤ 40) (n : Int) : F_proc_looks_4 n p = some (fromB n p.Vars.length) := by
  unfold F_proc_looks_4
  rw [within_from (by omega) (by omega)]
  rfl
theorem wt_eq (n : Int) : F_proc_within n 1099511627776 = some (fromB n 1099511627777) := by
  rw [within_eq]
  unfold fromB
  congr 2
  rw [Bool.eq_iff_iff]
  simp only [decide_eq_true_eq]
  omega
theorem wf_eq (n : Int) : F_proc_within n 1048576 = some (fromB n 1048577) := by
  rw [within_eq]
  unfold fromB
  congr 2
  rw [Bool.eq_iff_iff]
  simp only [decide_eq_true_eq]
  omega
theorem l5_eq (c : T_api_Code) (h : CSmall c) (hz : CSz c) (p : T_api_Proc) (hd : 0 ≤ p.Def) (hv : p.Vars.length ≤ 40) (a : T_api_Alt) : F_proc_looks_5 a c p = some (altB c p a) := by
  have e0 : ∀ x : Bool, (x && true) = x := fun x => by cases x <;> rfl
  unfold F_proc_looks_5 altB F_proc_looks_5_J1 F_proc_looks_5_J2
  rw [l2_eq c h p hd]
  simp only [Option.bind_some, l3_eq c h hz, l4_eq p hv, wt_eq, beq_self_eq_true, Bool.true_and, Bool.and_true]
  by_cases k1 : a.Kind = 1
  · rw [beqt k1, if_pos k1, cond_true]
    have : ((0 : Int) == a.Val) = (a.Val == 0) := by rw [Bool.eq_iff_iff, beq_iff_eq, beq_iff_eq]; exact eq_comm
    cases restsB c p.Def a.Goto <;> cases fromB a.Chan (chansN c) <;> cases fromB a.Slot p.Vars.length <;> simp [this]
  · rw [beqf k1, if_neg k1, cond_false]
    by_cases k2 : a.Kind = 2
    · rw [beqt k2, if_pos k2, cond_true]
      have : ((0 : Int) == a.Slot) = (a.Slot == 0) := by rw [Bool.eq_iff_iff, beq_iff_eq, beq_iff_eq]; exact eq_comm
      cases restsB c p.Def a.Goto <;> cases fromB a.Chan (chansN c) <;> simp [this]
    · rw [beqf k2, if_neg k2, cond_false]
      by_cases k3 : a.Kind = 3
      · rw [beqt k3, if_pos k3, cond_true]
        have t1 : ((0 : Int) == a.Slot) = (a.Slot == 0) := by rw [Bool.eq_iff_iff, beq_iff_eq, beq_iff_eq]; exact eq_comm
        have t2 : ((0 : Int) == a.Chan) = (a.Chan == 0) := by rw [Bool.eq_iff_iff, beq_iff_eq, beq_iff_eq]; exact eq_comm
        cases restsB c p.Def a.Goto <;> cases fromB a.Val 1099511627777 <;> simp [t1, t2]
      · rw [beqf k3, if_neg k3, cond_false, Bool.and_false]

theorem idx_loop (c : T_api_Code) (h : CSmall c) (hz : CSz c) (p : T_api_Proc) (hd : 0 ≤ p.Def) (hv : p.Vars.length ≤ 40) (l : List T_api_Alt) (hl : l.length ≤ 1000) : ∀ (m k : Nat), k + m = l.length →
    ∃ r : Int, Loop (fun s : Int => F_slices_IndexFunc_retrace_api_Alt_retrace_api_Alt_L1 l c p s) (k : Int) = some r ∧ (decide (0 ≤ r) = !((l.drop k).all (altB c p)))
  | 0, k, hk => by
    refine ⟨-1, Loop_inr ?_, ?_⟩
    · unfold F_slices_IndexFunc_retrace_api_Alt_retrace_api_Alt_L1
      rw [dcf (by omega)]; rfl
    · rw [List.drop_eq_nil_of_le (by omega)]; rfl
  | m + 1, k, hk => by
    have hkl : k < l.length := by omega
    have hstep : F_slices_IndexFunc_retrace_api_Alt_retrace_api_Alt_L1 l c p (k : Int) = (if altB c p l[k] = true then some (.inl (((k + 1 : Nat) : Int))) else some (.inr (k : Int))) := by
      unfold F_slices_IndexFunc_retrace_api_Alt_retrace_api_Alt_L1 F_proc_looks_8_1
      rw [dct (by omega), lAt_lt hkl, w64i (by omega) (by omega)]
      simp only [cond_true, Option.bind_some, l5_eq c h hz p hd hv]
      cases altB c p l[k] <;> rfl
    rw [List.drop_eq_getElem_cons hkl, List.all_cons]
    by_cases e : altB c p l[k] = true
    · rw [if_pos e] at hstep
      obtain ⟨r, h1, h2⟩ := idx_loop c h hz p hd hv l hl m (k + 1) (by omega)
      exact ⟨r, (Loop_inl hstep).trans h1, by rw [h2, e, Bool.true_and]⟩
    · rw [if_neg e] at hstep
      have e' : altB c p l[k] = false := by simpa using e
      exact ⟨(k : Int), Loop_inr hstep, by rw [e', decide_eq_true (by omega)]; rfl⟩
theorem l8_eq (c : T_api_Code) (h : CSmall c) (hz : CSz c) (p : T_api_Proc) (hd : 0 ≤ p.Def) (hv : p.Vars.length ≤ 40) (ha : p.Alts.length ≤ 40) : F_proc_looks_8 c p = some (p.Alts.all (altB c p) && isB c p.Def p.At 1) := by
  obtain ⟨r, h1, h2⟩ := idx_loop c h hz p hd hv p.Alts (by omega) p.Alts.length 0 (by omega)
  unfold F_proc_looks_8 F_proc_looks_8_J1 F_slices_ContainsFunc_retrace_api_Alt_retrace_api_Alt F_slices_IndexFunc_retrace_api_Alt_retrace_api_Alt
  rw [l1_eq c h p hd]
  replace h1 : Loop (fun s : Int => F_slices_IndexFunc_retrace_api_Alt_retrace_api_Alt_L1 p.Alts c p s) 0 = some r := h1
  rw [h1]
  rw [List.drop_zero] at h2
  simp only [Option.bind_some, h2, Bool.not_not]
  cases isB c p.Def p.At 1 with
  | false => rw [Bool.and_false]; rfl
  | true => rw [Bool.and_true]; rfl

def bareP (p : T_api_Proc) : T_api_Proc :=
  if p.Mode = 1 then ⟨p.Def, p.At, p.Vars, p.Fuel, p.Mode, p.Chan, p.Val, 0, 0, p.Since, []⟩ else if p.Mode = 2 then ⟨p.Def, p.At, p.Vars, p.Fuel, p.Mode, p.Chan, 0, p.Slot, 0, p.Since, []⟩
  else if p.Mode = 3 then ⟨p.Def, p.At, p.Vars, p.Fuel, p.Mode, 0, 0, 0, 0, p.Since, p.Alts⟩ else if p.Mode = 4 then ⟨p.Def, p.At, p.Vars, p.Fuel, p.Mode, 0, 0, 0, p.Until, 0, []⟩
  else ⟨p.Def, p.At, p.Vars, p.Fuel, p.Mode, 0, 0, 0, 0, 0, []⟩
theorem bare_eq (p : T_api_Proc) : F_proc_bare p = some (bareP p) := by
  unfold F_proc_bare bareP F_proc_bare_J1
  by_cases m1 : p.Mode = 1
  · rw [beqt m1, if_pos m1]; rfl
  rw [beqf m1, if_neg m1, cond_false]
  by_cases m2 : p.Mode = 2
  · rw [beqt m2, if_pos m2]; rfl
  rw [beqf m2, if_neg m2, cond_false]
  by_cases m3 : p.Mode = 3
  · rw [beqt m3, if_pos m3]; rfl
  rw [beqf m3, if_neg m3, cond_false]
  by_cases m4 : p.Mode = 4
  · rw [beqt m4, if_pos m4]; rfl
  rw [beqf m4, if_neg m4, cond_false]
theorem bare_len (p : T_api_Proc) : (bareP p).Vars = p.Vars ∧ (bareP p).Alts.length ≤ p.Alts.length := by
  unfold bareP
  repeat' split
  all_goals simp
theorem bare_shape (p : T_api_Proc) : shapeB p = true ↔ bareP p = p := by
  obtain ⟨a1, a2, a3, a4, m, a6, a7, a8, a9, a10, l⟩ := p
  have hl : (!decide (0 < (l.length : Int))) = true ↔ [] = l := by
    cases l with
    | nil => simp
    | cons x l => simp
  unfold shapeB bareP
  simp only [Bool.and_eq_true, Bool.or_eq_true, beq_iff_eq, hl]
  by_cases m1 : m = 1
  · subst m1
    simp [eq_comm]
  by_cases m2 : m = 2
  · subst m2
    simp [eq_comm]
  by_cases m3 : m = 3
  · subst m3
    simp [eq_comm]
  by_cases m4 : m = 4
  · subst m4
    simp [eq_comm]
  · rw [if_neg m1, if_neg m2, if_neg m3, if_neg m4]
    simp [m1, m2, m3, m4, eq_comm]

theorem check_eq (c : T_api_Code) (h : CSmall c) (hz : CSz c) (p : T_api_Proc) (hv : p.Vars.length ≤ 40) (ha : p.Alts.length ≤ 40) : F_proc_Check c p = some (if isPB c p = true then 0 else 9) := by
  have hD := h.defs
  have mode : ∀ {a b : Int}, fromB a b = false → True := fun _ => trivial
  have bad : ∀ x, isPB c p = false → F_proc_Check_J2 true = x → x = some (if isPB c p = true then 0 else 9) := fun x e1 e2 => by rw [← e2, e1]; rfl
  have j1f : F_proc_Check_J1 c p false = some 9 := rfl
  unfold F_proc_Check
  rw [within_from (by omega) (by omega), wf_eq, wt_eq, within_eq]
  simp only [Option.bind_some]
  cases e1 : fromB p.Def c.Defs.length with
  | false => rw [cond_false, j1f]; unfold isPB; rw [e1]; rfl
  | true =>
  cases e2 : fromB p.Fuel 1048577 with
  | false => rw [cond_true, cond_false, j1f]; unfold isPB; rw [e2]; simp
  | true =>
  cases e3 : fromB p.Since 1099511627777 with
  | false => rw [cond_true, cond_true, cond_false, j1f]; unfold isPB; rw [e3]; simp
  | true =>
  simp only [cond_true]
  have hd : 0 ≤ p.Def ∧ p.Def < c.Defs.length := by simpa [fromB] using e1
  cases e4 : (decide (0 ≤ p.Mode) && decide (p.Mode ≤ 6)) with
  | false =>
    rw [j1f]
    have hm : ¬ (0 ≤ p.Mode ∧ p.Mode ≤ 6) := by simpa [Bool.and_eq_false_iff] using e4
    have : modeB c p = false := by
      unfold modeB
      rw [if_neg (by omega), if_neg (by omega), if_neg (by omega), if_neg (by omega), if_neg (by omega), if_neg (by omega)]
    unfold isPB; rw [this]; simp
  | true =>
  have hm : 0 ≤ p.Mode ∧ p.Mode ≤ 6 := by simpa using e4
  unfold F_proc_Check_J1 isPB
  obtain ⟨d, ed, _⟩ := lAt_ok hd.1 hd.2
  rw [ed, e1, e2, e3]
  simp only [Bool.not_true, cond_false, Option.bind_some, bne, Bool.true_and, bare_eq, F_proc_looks]
  cases e5 : ((p.Vars.length : Int) == d.Vars) with
  | false => rfl
  | true =>
  simp only [Bool.not_true, cond_false, Bool.true_and]
  have hb := bare_len p
  rw [pSame_eq (bareP p) p (by rw [hb.1]; omega) (by omega) (shapeB p) (bare_shape p)]
  simp only [Option.bind_some]
  cases e6 : shapeB p with
  | false => rfl
  | true =>
  simp only [Bool.not_true, cond_false, Bool.true_and]
  have fin : ∀ b : Bool, F_proc_Check_J2 (!b) = some (if b = true then 0 else 9) := fun b => by cases b <;> rfl
  by_cases m0 : p.Mode = 0
  · have e : modeB c p = isB c p.Def p.At 1 := by unfold modeB; rw [if_pos (.inl m0)]
    rw [beqt m0, cond_true, l1_eq c h p hd.1, e]; exact fin _
  rw [beqf m0, cond_false]
  by_cases m1 : p.Mode = 1
  · have e : modeB c p = (restsB c p.Def p.At && fromB p.Chan (chansN c)) := by unfold modeB; rw [if_neg (by omega), if_pos m1]
    rw [beqt m1, cond_true, e]
    unfold F_proc_looks_6 F_proc_looks_6_J1
    rw [l2_eq c h p hd.1, l3_eq c h hz]
    cases restsB c p.Def p.At <;> exact fin _
  rw [beqf m1, cond_false]
  by_cases m2 : p.Mode = 2
  · have e : modeB c p = (restsB c p.Def p.At && (fromB p.Chan (chansN c) && fromB p.Slot p.Vars.length)) := by unfold modeB; rw [if_neg (by omega), if_neg (by omega), if_pos m2]
    rw [beqt m2, cond_true, e]
    unfold F_proc_looks_7 F_proc_looks_7_J1
    rw [l2_eq c h p hd.1, l3_eq c h hz, l4_eq p hv]
    cases restsB c p.Def p.At <;> cases fromB p.Chan (chansN c) <;> exact fin _
  rw [beqf m2, cond_false]
  by_cases m3 : p.Mode = 3
  · have e : modeB c p = (p.Alts.all (altB c p) && isB c p.Def p.At 1) := by unfold modeB; rw [if_neg (by omega), if_neg (by omega), if_neg (by omega), if_neg (by omega), if_neg (by omega), if_pos m3]
    rw [beqt m3, cond_true, l8_eq c h hz p hd.1 hv ha, e]
    exact fin _
  rw [beqf m3, cond_false]
  by_cases m4 : p.Mode = 4
  · have e : modeB c p = (restsB c p.Def p.At && fromB p.Until 1099511627777) := by unfold modeB; rw [if_neg (by omega), if_neg (by omega), if_neg (by omega), if_pos m4]
    rw [beqt m4, cond_true, e]
    unfold F_proc_looks_9 F_proc_looks_9_J1
    rw [l2_eq c h p hd.1, wt_eq]
    cases restsB c p.Def p.At <;> exact fin _
  rw [beqf m4, cond_false]
  by_cases m5 : p.Mode = 5
  · have e : modeB c p = (p.At == 0) := by unfold modeB; rw [if_neg (by omega), if_neg (by omega), if_neg (by omega), if_neg (by omega), if_pos m5]
    rw [beqt m5, cond_true, e]
    exact fin _
  have e : modeB c p = isB c p.Def p.At 1 := by unfold modeB; rw [if_pos (.inr (by omega))]
  rw [beqf m5, cond_false, beqt (show p.Mode = 6 by omega), cond_true, l1_eq c h p hd.1, e]
  exact fin _

theorem large_eq (c : T_api_Code) (p : T_api_Proc) : ∃ b, F_retracelaw22_large c p = some b ∧ (b = false → c.Ins.length ≤ 150 ∧ c.Defs.length ≤ 40 ∧ c.Chans.length ≤ 80 ∧ p.Vars.length ≤ 40 ∧ p.Alts.length ≤ 40) := by
  unfold F_retracelaw22_large F_retracelaw22_large_J1
  by_cases h1 : 150 < (c.Ins.length : Int)
  · exact ⟨true, by rw [dct h1]; rfl, fun h => by cases h⟩
  by_cases h2 : 40 < (c.Defs.length : Int)
  · exact ⟨true, by rw [dcf h1, dct h2]; rfl, fun h => by cases h⟩
  by_cases h3 : 80 < (c.Chans.length : Int)
  · exact ⟨true, by rw [dcf h1, dcf h2, dct h3]; rfl, fun h => by cases h⟩
  by_cases h4 : 40 < (p.Vars.length : Int)
  · exact ⟨true, by rw [dcf h1, dcf h2, dcf h3, dct h4]; rfl, fun h => by cases h⟩
  by_cases h5 : 40 < (p.Alts.length : Int)
  · exact ⟨true, by rw [dcf h1, dcf h2, dcf h3, dcf h4, dct h5]; rfl, fun h => by cases h⟩
  exact ⟨false, by rw [dcf h1, dcf h2, dcf h3, dcf h4, dcf h5]; rfl, fun _ => by omega⟩

theorem law_pchecks (c : T_api_Code) (p : T_api_Proc) (dn : ∀ d ∈ c.Defs, d.Name.size ≤ maxLen) (cn : ∀ d ∈ c.Chans, d.Name.size ≤ maxLen) : F_retracelaw22_ProcChecks c p = some true := by
  have ht : F_retracelaw22_ProcChecks_J1 c p true = some true := by
    unfold F_retracelaw22_ProcChecks_J1
    rw [cond_true, ev_retracelaw22_live]; rfl
  unfold F_retracelaw22_ProcChecks
  obtain ⟨b, eb, hb⟩ := large_eq c p
  rw [eb, Option.bind_some]
  cases b with
  | true => rw [cond_true, ht]
  | false =>
  obtain ⟨h1, h2, h3, h4, h5⟩ := hb rfl
  have h : CSmall c := ⟨h1, h2, h3, dn, cn⟩
  obtain ⟨r, er, -⟩ := ok_Right c h
  rw [er, cond_false, Option.bind_some]
  cases r with
  | false => exact ht
  | true =>
  have hz := right_sz h er
  unfold F_retracelaw22_ProcChecks_J1 F_retracelaw22_ProcChecks_J2
  rw [check_eq c h hz p h4 h5, isP_eq c h p h5, pchans_eq c h3, chans_eq c h3, ev_retracelaw22_live]
  simp only [Bool.not_true, cond_false, Option.bind_some]
  cases isPB c p <;> simp
end Go.Ab
