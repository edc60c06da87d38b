/- All but the instructions. -/
import Derived.Test.YtholdfpblliiiaaQE
namespace Go.Ab
set_option linter.unusedVariables false
set_option maxRecDepth 10000
theorem nam_s (s : ByteArray) (hs : s.size ≤ maxLen) : F_retraceref08_Name s = some (nameB s) := some_of (ok_Name s hs) _
noncomputable def chBad (b : Int) (x : T_api_Chan) : Bool := !nameB x.Name || (decide (x.Size < 0) || (decide (16 < x.Size) || !(x.Base == b)))
noncomputable def chG (b : Int) (x : T_api_Chan) : Int ⊕ Bool := if chBad b x = true then .inr false else if 64 < b + max x.Size 1 then .inr false else .inl (b + max x.Size 1)
noncomputable def chR (b : Int) (x : T_api_Chan) : Int ⊕ Bool := if (chBad b x || decide (64 ≤ b)) = true then .inr false else .inl (b + max x.Size 1)
theorem chR_big : ∀ (l : List T_api_Chan) (b : Int), 64 < b → scan chR (fun b => decide (b ≤ 64)) l b = false
  | [], b, h => by simp only [scan]; exact dcf (by omega)
  | x :: l, b, h => by
    simp only [scan, chR]
    rw [dct (show 64 ≤ b by omega), Bool.or_true, if_pos rfl]
theorem ch_same : ∀ (l : List T_api_Chan) (b : Int), b ≤ 64 → scan chG (fun _ => true) l b = scan chR (fun b => decide (b ≤ 64)) l b
  | [], b, h => by simp only [scan]; exact (dct h).symm
  | x :: l, b, h => by
    simp only [scan, chR, chG]
    cases hb : chBad b x with
    | true => simp
    | false =>
      have hs : 0 < max x.Size 1 := by omega
      simp only [Bool.false_or, Bool.false_eq_true, if_false, decide_eq_true_eq]
      by_cases h1 : 64 < b + max x.Size 1
      · rw [if_pos h1]
        by_cases h2 : 64 ≤ b
        · rw [if_pos h2]
        · rw [if_neg h2]
          exact (chR_big l _ h1).symm
      · rw [if_neg h1, if_neg (by omega)]
        exact ch_same l _ (by omega)
theorem chG_loop (c : T_api_Code) (hc : c.Chans.length ≤ 80) (hn : ∀ d ∈ c.Chans, d.Name.size ≤ maxLen) : Loop (fun s : (Int × Int) => F_code_tables_L5 c s.1 s.2) (0, 0) = some (scan chG (fun _ => true) c.Chans 0) := by
  refine Loop_scan c.Chans (by omega) chG (fun _ => true) (fun s i => (s, i)) (fun _ s => 0 ≤ s ∧ s ≤ 64) (fun k hk s hi => ?_) (fun k hk s s' hi e => ?_) (fun s hi => ?_) 0 ⟨by omega, by omega⟩
  · show F_code_tables_L5 c s (k : Int) = _
    unfold F_code_tables_L5 F_code_tables_J4 chG chBad
    rw [dct (by omega), lAt_lt hk]
    simp only [cond_true, Option.bind_some, name_eq _ (hn _ (List.getElem_mem hk)), nam_s _ (hn _ (List.getElem_mem hk)), bne]
    generalize c.Chans[k] = x
    cases nameB x.Name
    · rfl
    · by_cases h1 : x.Size < 0
      · rw [dct h1]; rfl
      by_cases h2 : 16 < x.Size
      · rw [dcf h1, dct h2]; rfl
      rw [dcf h1, dcf h2]
      have hm : (if 1 > x.Size then 1 else x.Size) = max x.Size 1 := by
        by_cases h : 1 > x.Size
        · rw [if_pos h]; omega
        · rw [if_neg h]; omega
      rw [hm]
      cases (x.Base == s)
      · rfl
      · simp only [Bool.not_true, cond_false, Bool.or_self, Bool.false_eq_true, if_false]
        rw [w64i (n := s + max x.Size 1) (by omega) (by omega)]
        by_cases h3 : 64 < s + max x.Size 1
        · rw [dct h3, if_pos h3]; rfl
        · rw [dcf h3, if_neg h3]; rfl
  · unfold chG at e
    split at e
    · cases e
    · split at e
      · cases e
      · rename_i hb h
        cases e
        unfold chBad at hb
        simp at hb
        omega
  · show F_code_tables_L5 c s (c.Chans.length : Int) = _
    unfold F_code_tables_L5
    rw [dcf (by omega)]; rfl
theorem chR_loop (c : T_api_Code) (hc : c.Chans.length ≤ 80) (hn : ∀ d ∈ c.Chans, d.Name.size ≤ maxLen) : Loop (fun s : (Int × Int) => F_retraceref20_tables_L6 c s.1 s.2) (0, 0) = some (scan chR (fun b => decide (b ≤ 64)) c.Chans 0) := by
  refine Loop_scan c.Chans (by omega) chR (fun b => decide (b ≤ 64)) (fun s i => (s, i)) (fun _ s => 0 ≤ s ∧ s ≤ 80) (fun k hk s hi => ?_) (fun k hk s s' hi e => ?_) (fun s hi => ?_) 0 ⟨by omega, by omega⟩
  · show F_retraceref20_tables_L6 c s (k : Int) = _
    unfold F_retraceref20_tables_L6 F_retraceref20_tables_J5 F_retraceref20_tables_J4 chR chBad
    rw [dct (by omega), lAt_lt hk]
    simp only [cond_true, Option.bind_some, nam_s _ (hn _ (List.getElem_mem hk)), bne]
    generalize c.Chans[k] = x
    cases nameB x.Name
    · rfl
    · by_cases h1 : x.Size < 0
      · rw [dct h1]; rfl
      by_cases h2 : 16 < x.Size
      · rw [dcf h1, dct h2]; rfl
      rw [dcf h1, dcf h2]
      cases (x.Base == s)
      · rfl
      · simp only [Bool.not_true, cond_false, Bool.or_self, Bool.false_or]
        by_cases h3 : 64 ≤ s
        · rw [dct h3]; rfl
        · rw [dcf h3]
          simp only [cond_false, Bool.false_eq_true, if_false]
          by_cases h4 : x.Size = 0
          · rw [h4, w64i (n := s + 0) (by omega) (by omega), w64i (n := s + 0 + 1) (by omega) (by omega)]
            simp [Sum.map, show max (0 : Int) 1 = 1 from rfl]
          · rw [beqf h4, w64i (n := s + x.Size) (by omega) (by omega), show max x.Size 1 = x.Size by omega]
            rfl
  · unfold chR at e
    split at e
    · cases e
    · rename_i hb
      cases e
      unfold chBad at hb
      simp at hb
      omega
  · show F_retraceref20_tables_L6 c s (c.Chans.length : Int) = _
    unfold F_retraceref20_tables_L6
    rw [dcf (by omega)]; rfl
noncomputable def nmB (s : ByteArray) : Bool := decide (s = ⟨#[109, 97, 105, 110]⟩) || nameB s
noncomputable def dfG (n : Nat) (u : Int) (d : T_api_Def) : Int ⊕ Bool :=
  if nmB d.Name = true ∧ ¬ (u < 0 ∧ d.Entry ≠ 0) ∧ u < d.Entry ∧ d.Entry < n ∧ 0 ≤ d.Params ∧ d.Params ≤ d.Vars ∧ d.Vars ≤ 16 then .inl d.Entry else .inr false
theorem dfC_loop (c : T_api_Code) (hd : c.Defs.length ≤ 40) (hn : ∀ d ∈ c.Defs, d.Name.size ≤ maxLen) (hc : c.Chans.length ≤ 80) (hm : ∀ d ∈ c.Chans, d.Name.size ≤ maxLen) :
    Loop (fun s : (Int × Int) => F_code_tables_L6 c s.1 s.2) (-1, 0) = some (scan (dfG c.Ins.length) (fun _ => scan chG (fun _ => true) c.Chans 0) c.Defs (-1)) := by
  refine Loop_scan c.Defs (by omega) (dfG c.Ins.length) _ (fun s i => (s, i)) (fun _ _ => True) (fun k hk s hi => ?_) (fun _ _ _ _ _ _ => trivial) (fun s hi => ?_) (-1) trivial
  · show F_code_tables_L6 c s (k : Int) = _
    unfold F_code_tables_L6 F_code_tables_J2 F_code_tables_J3 dfG nmB
    rw [dct (show (k : Int) < c.Defs.length by omega), lAt_lt hk]
    simp only [cond_true, Option.bind_some, name_eq _ (hn _ (List.getElem_mem hk)), nam_s _ (hn _ (List.getElem_mem hk)), bne, eqS]
    generalize c.Defs[k] = x
    generalize decide (x.Name = ⟨#[109, 97, 105, 110]⟩) = q1
    generalize nameB x.Name = q2
    have hl : ((c.Ins.length : Nat) : Int) = (c.Ins.length : Int) := rfl
    have e2 : (x.Entry == 0) = decide (x.Entry = 0) := rfl
    simp only [cond_eq_ite, e2, Bool.not_eq_true', decide_eq_true_eq, Bool.or_eq_true, decide_eq_false_iff_not]
    cases q1 <;> cases q2 <;> grind [Sum.map]
  · show F_code_tables_L6 c s (c.Defs.length : Int) = _
    unfold F_code_tables_L6
    rw [dcf (by omega), chG_loop c hc hm]; rfl
theorem dfR_loop (c : T_api_Code) (hd : c.Defs.length ≤ 40) (hn : ∀ d ∈ c.Defs, d.Name.size ≤ maxLen) (hc : c.Chans.length ≤ 80) (hm : ∀ d ∈ c.Chans, d.Name.size ≤ maxLen) :
    Loop (fun s : (Int) => F_retraceref20_tables_L7 c s) 0 = some (scan (dfG c.Ins.length) (fun _ => scan chG (fun _ => true) c.Chans 0) c.Defs (-1)) := by
  refine Loop_scan c.Defs (by omega) (dfG c.Ins.length) _ (fun s i => i) (fun k s => (k = 0 → s = -1) ∧ (∀ d, 0 < k → c.Defs[k - 1]? = some d → s = d.Entry ∧ 0 ≤ s)) (fun k hk s hi => ?_) (fun k hk s s' hi e => ?_) (fun s hi => ?_) (-1) ⟨fun _ => rfl, fun d h => by omega⟩
  · show F_retraceref20_tables_L7 c (k : Int) = _
    unfold F_retraceref20_tables_L7 F_retraceref20_tables_J2 F_retraceref20_tables_J3 dfG nmB
    rw [dct (show (k : Int) < c.Defs.length by omega), lAt_lt hk]
    simp only [cond_true, Option.bind_some, nam_s _ (hn _ (List.getElem_mem hk)), bne, eqS]
    obtain ⟨i1, i2⟩ := hi
    have hprev : 0 < k → ∃ y, c.Defs[k - 1]? = some y ∧ lAt c.Defs (w64 ((k : Int) - 1)) = some y := fun h => by
      have hlt : k - 1 < c.Defs.length := by omega
      refine ⟨c.Defs[k - 1], List.getElem?_eq_getElem hlt, ?_⟩
      rw [w64i (by omega) (by omega), show (k : Int) - 1 = ((k - 1 : Nat) : Int) by omega, lAt_lt hlt]
    generalize c.Defs[k] = x
    generalize decide (x.Name = ⟨#[109, 97, 105, 110]⟩) = q1
    generalize nameB x.Name = q2
    have e2 : (x.Entry == 0) = decide (x.Entry = 0) := rfl
    have e3 : ((k : Int) == 0) = decide (k = 0) := decide_eq_decide.2 (by omega)
    rcases Nat.eq_zero_or_pos k with hk0 | hk0
    · subst hk0
      have := i1 rfl
      subst this
      simp only [cond_eq_ite, e2, Bool.not_eq_true', decide_eq_true_eq, Bool.or_eq_true, decide_eq_false_iff_not, Option.map_some]
      cases q1 <;> cases q2 <;> grind [Sum.map]
    · obtain ⟨y, hy, hb⟩ := hprev hk0
      obtain ⟨rfl, i3⟩ := i2 y hk0 hy
      simp only [hb, Option.bind_some]
      simp only [cond_eq_ite, e2, e3, Bool.not_eq_true', decide_eq_true_eq, Bool.or_eq_true, decide_eq_false_iff_not, Option.map_some]
      cases q1 <;> cases q2 <;> grind [Sum.map]
  · unfold dfG at e
    split at e
    · rename_i h
      cases e
      refine ⟨fun h => by omega, fun d _ hq => ?_⟩
      rw [Nat.add_sub_cancel, List.getElem?_eq_getElem hk] at hq
      cases hq
      refine ⟨rfl, ?_⟩
      obtain ⟨i1, i2⟩ := hi
      rcases Nat.eq_zero_or_pos k with hk0 | hk0
      · have := i1 hk0
        have := h.2.1
        omega
      · obtain ⟨i3, i4⟩ := i2 _ hk0 (List.getElem?_eq_getElem (show k - 1 < c.Defs.length by omega))
        have := h.2.2.1
        omega
    · cases e
  · show F_retraceref20_tables_L7 c (c.Defs.length : Int) = _
    unfold F_retraceref20_tables_L7
    rw [dcf (by omega), chR_loop c hc hm, ← ch_same c.Chans 0 (by omega)]; rfl
theorem tables_eq (c : T_api_Code) (h : CSmall c) : F_code_tables c = F_retraceref20_tables c := by
  unfold F_code_tables F_retraceref20_tables F_code_tables_J1 F_retraceref20_tables_J1
  rw [dfC_loop c h.defs h.dn h.chans h.cn, dfR_loop c h.defs h.dn h.chans h.cn]
end Go.Ab
