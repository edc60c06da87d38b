/- What may be, of single places. -/
import Derived.Test.YtholdfpblliiiaaQC
namespace Go.Ab
set_option linter.unusedVariables false
set_option maxRecDepth 10000
theorem crout (c : T_api_Code) (r m f t v T : Int) (d : T_api_Def) (hd : lAt c.Defs r = some d) (hT : F_retraceref20_To c r = some T) : F_code_checker_routine r ⟨c, m, f, t, v⟩ = some ⟨c, m, d.Entry, T, d.Vars⟩ := by
  unfold F_retraceref20_To at hT
  unfold F_code_checker_routine
  simp only [hd, Option.bind_some]
  cases hq : decide (w64 (r + 1) < (c.Defs.length : Int)) with
  | true =>
    rw [hq] at hT
    cases hl : lAt c.Defs (w64 (r + 1)) with
    | none => rw [hl] at hT; cases hT
    | some y => rw [hl] at hT; have := Option.some.inj hT; rw [← this]; rfl
  | false => rw [hq] at hT; have := Option.some.inj hT; rw [← this]; rfl
theorem rests_eq (c : T_api_Code) (hi : c.Ins.length ≤ 150) (r a m T V : Int) (d : T_api_Def) (hd : lAt c.Defs r = some d) (hT : F_retraceref20_To c r = some T) : F_code_checker_rests a ⟨c, m, d.Entry, T, V⟩ = F_retraceref20_rests c r a := by
  unfold F_code_checker_rests F_retraceref20_rests
  rw [settle_eq c hi]
  simp only [hd, hT, Option.bind_some]
  rfl
theorem chan_eq (c : T_api_Code) (hc : c.Chans.length ≤ 80) (x : T_api_Ins) : F_slices_ContainsFunc_retrace_api_Chan_retrace_api_Chan c.Chans x = F_retraceref20_channel c x.A x.B := by
  have e1 : F_slices_IndexFunc_retrace_api_Chan_retrace_api_Chan c.Chans x = some (match c.Chans.findIdx? (fun d => (d.Base == x.A) && (d.Size == x.B)) with | some k => (k : Int) | none => -1) := by
    unfold F_slices_IndexFunc_retrace_api_Chan_retrace_api_Chan
    refine Loop_find (R := Int) c.Chans (by omega) (fun d => (d.Base == x.A) && (d.Size == x.B)) (fun k => (k : Int)) (-1) (fun k hk => ?_) ?_
    · unfold F_slices_IndexFunc_retrace_api_Chan_retrace_api_Chan_L1 F_code_checker_may_1 F_code_checker_may_1_J1
      rw [dct (by omega), lAt_lt hk]
      simp only [cond_true, Option.bind_some]
      cases (c.Chans[k].Base == x.A) <;> cases (c.Chans[k].Size == x.B) <;> rfl
    · unfold F_slices_IndexFunc_retrace_api_Chan_retrace_api_Chan_L1
      rw [dcf (by omega)]; rfl
  have e2 : F_retraceref20_channel c x.A x.B = some (match c.Chans.findIdx? (fun d => (d.Base == x.A) && (d.Size == x.B)) with | some k => true | none => false) := by
    unfold F_retraceref20_channel
    refine Loop_find (R := Bool) c.Chans (by omega) (fun d => (d.Base == x.A) && (d.Size == x.B)) (fun k => true) false (fun k hk => ?_) ?_
    · unfold F_retraceref20_channel_L2 F_retraceref20_channel_J1
      rw [dct (by omega), lAt_lt hk]
      simp only [cond_true, Option.bind_some]
      cases (c.Chans[k].Base == x.A) <;> cases (c.Chans[k].Size == x.B) <;> rfl
    · unfold F_retraceref20_channel_L2
      rw [dcf (by omega)]; rfl
  unfold F_slices_ContainsFunc_retrace_api_Chan_retrace_api_Chan
  rw [e1, e2]
  simp only [Option.bind_some]
  cases c.Chans.findIdx? (fun d => (d.Base == x.A) && (d.Size == x.B)) with
  | none => rfl
  | some k => show some (decide (0 ≤ (k : Int))) = some true; rw [dct (by omega)]
theorem csS {α : Type} (b : Bool) (x y : α) : cond b (some x) (some y) = some (cond b x y) := by cases b <;> rfl
theorem cho_tgt (x : T_api_Ins) (h : chosB x.Op = true) : (tgt x).2 = true := by
  obtain ⟨op, a, b⟩ := x
  replace h : chosB op = true := h
  rcases opc op with h1 | rfl | rfl | rfl | rfl | rfl | rfl | rfl | rfl | rfl | rfl | rfl | rfl | rfl | rfl | rfl | rfl | rfl | rfl | rfl | rfl | rfl | rfl | rfl | rfl | rfl
  · unfold chosB F_retraceref20_Chooses F_retraceref20_Chooses_J1 at h
    by_cases h2 : 19 ≤ op
    · rw [dct h2, dcf (show ¬ op ≤ 22 by omega)] at h; cases h
    · rw [dcf h2] at h; cases h
  all_goals first | (cases h; done) | rfl
/-- What is asked of a target, and of where one rests. -/
noncomputable def tailB (c : T_api_Code) (r p T : Int) (d : T_api_Def) (x : T_api_Ins) : Bool :=
  (!(tgt x).2 || (decide (d.Entry ≤ (tgt x).1) && (decide ((tgt x).1 < T) && (decide (p < (tgt x).1) || match lAt c.Ins (tgt x).1 with | some z => z.Op == 1 | none => false)))) &&
  ((!actsB x.Op || (F_retraceref20_rests c r (w64 (p + 1))).getD false) && (!chosB x.Op || (F_retraceref20_rests c r (tgt x).1).getD false))
theorem tail_c (c : T_api_Code) (h : CSmall c) (hg : CGood c) (r p m T : Int) (d : T_api_Def) (hd : lAt c.Defs r = some d) (hT : F_retraceref20_To c r = some T) (x : T_api_Ins) (b : Bool) :
    F_code_checker_may_J2 p ⟨c, m, d.Entry, T, d.Vars⟩ x b = some (b && tailB c r p T d x) := by
  obtain ⟨hr0, hr1⟩ := lAt_rng hd
  have hE := hg d (lAt_mem hd)
  obtain ⟨T', hT', hTl⟩ := ok_To c h hg r hr0 hr1
  rw [hT] at hT'; cases hT'
  obtain ⟨s1, hs1, _⟩ := ok_rests c h hg r hr0 hr1 (w64 (p + 1))
  obtain ⟨s2, hs2, _⟩ := ok_rests c h hg r hr0 hr1 (tgt x).1
  have j3 : ∀ q, F_code_checker_may_J3 p ⟨c, m, d.Entry, T, d.Vars⟩ x (tgt x) q = some (!q && ((!actsB x.Op || s1) && (!chosB x.Op || s2))) := fun q => by
    unfold F_code_checker_may_J3 F_code_checker_may_J4
    simp only [acts_eq, acts_s, chooses_eq, chos_s, rests_eq c h.ins r _ m T d.Vars d hd hT, hs1, hs2, Option.bind_some, Option.getD_some]
    cases q <;> cases actsB x.Op <;> cases chosB x.Op <;> first | rfl | (cases s1 <;> rfl)
  unfold F_code_checker_may_J2 F_code_checker_aimed F_code_checker_aimed_J1 tailB
  simp only [target_eq, tgt_s, Option.bind_some, j3, hs1, hs2, Option.getD_some]
  cases b
  · rfl
  · cases ht : (tgt x).2 with
    | false => simp
    | true =>
      by_cases h1 : d.Entry ≤ (tgt x).1
      · by_cases h2 : (tgt x).1 < T
        · obtain ⟨z, hz, _⟩ := lAt_ok (l := c.Ins) (i := (tgt x).1) (by omega) (by omega)
          rw [dct h1, dct h2, hz]
          by_cases h3 : p < (tgt x).1
          · rw [dct h3]; simp
          · rw [dcf h3]; simp
        · rw [dct h1, dcf h2]; simp
      · rw [dcf h1]; simp
theorem tail_r (c : T_api_Code) (h : CSmall c) (hg : CGood c) (r p T : Int) (d : T_api_Def) (hd : lAt c.Defs r = some d) (hT : F_retraceref20_To c r = some T) (x : T_api_Ins) (b : Bool) :
    F_retraceref20_may_J5 c r p x d T b = some (!b && tailB c r p T d x) := by
  obtain ⟨hr0, hr1⟩ := lAt_rng hd
  have hE := hg d (lAt_mem hd)
  obtain ⟨T', hT', hTl⟩ := ok_To c h hg r hr0 hr1
  rw [hT] at hT'; cases hT'
  obtain ⟨s1, hs1, _⟩ := ok_rests c h hg r hr0 hr1 (w64 (p + 1))
  obtain ⟨s2, hs2, _⟩ := ok_rests c h hg r hr0 hr1 (tgt x).1
  have hc := cho_tgt x
  have j6 : F_retraceref20_may_J6 c r p x = some (!actsB x.Op || s1) := by
    unfold F_retraceref20_may_J6 F_retraceref20_may_J7
    simp only [acts_s, hs1, Option.bind_some, Option.getD_some]
    cases actsB x.Op <;> rfl
  have j8 : ∀ q, F_retraceref20_may_J8 c r p x q = some (!q && (!actsB x.Op || s1)) := fun q => by
    unfold F_retraceref20_may_J8
    rw [j6]
    cases q <;> rfl
  unfold F_retraceref20_may_J5 tailB
  simp only [tgt_s, Option.bind_some, j6, j8, chos_s, hs1, hs2, Option.getD_some]
  cases b
  · cases ht : (tgt x).2 with
    | false =>
      have : chosB x.Op = false := by
        cases hq : chosB x.Op
        · rfl
        · rw [hc hq] at ht; cases ht
      rw [this]; simp
    | true =>
      by_cases h1 : d.Entry ≤ (tgt x).1
      · rw [dct h1, dcf (show ¬ (tgt x).1 < d.Entry by omega)]
        by_cases h2 : (tgt x).1 < T
        · obtain ⟨z, hz, _⟩ := lAt_ok (l := c.Ins) (i := (tgt x).1) (by omega) (by omega)
          rw [dct h2, dcf (show ¬ T ≤ (tgt x).1 by omega), hz]
          by_cases h3 : p < (tgt x).1
          · rw [dct h3, dcf (show ¬ (tgt x).1 ≤ p by omega)]
            cases chosB x.Op <;> simp <;> grind
          · rw [dcf h3, dct (show (tgt x).1 ≤ p by omega)]
            cases hz1 : (z.Op == 1) <;> cases chosB x.Op <;> simp [bne, hz1] <;> grind
        · rw [dcf h2, dct (show T ≤ (tgt x).1 by omega)]; simp
      · rw [dcf h1, dct (show (tgt x).1 < d.Entry by omega)]; simp
  · rfl
set_option maxHeartbeats 2000000 in
theorem may_eq (c : T_api_Code) (h : CSmall c) (hg : CGood c) (r p m T : Int) (d : T_api_Def) (hd : lAt c.Defs r = some d) (hT : F_retraceref20_To c r = some T) (h0 : 0 ≤ p) (h1 : p < c.Ins.length) :
    F_code_checker_may p ⟨c, m, d.Entry, T, d.Vars⟩ = F_retraceref20_may c r p m := by
  obtain ⟨x, hx, _⟩ := lAt_ok h0 h1
  obtain ⟨rb, hrb, _⟩ := ok_IRight x
  obtain ⟨cb, hcb, _⟩ := ok_channel c h x.A x.B
  have tc := tail_c c h hg r p m T d hd hT x
  have tr := tail_r c h hg r p T d hd hT x
  generalize tailB c r p T d x = tl at tc tr
  unfold F_code_checker_may F_code_checker_may_J1 F_code_checker_may_J5
  unfold F_retraceref20_may F_retraceref20_may_J1 F_retraceref20_may_J2 F_retraceref20_may_J3 F_retraceref20_may_J4
  simp only [hx, hd, hT, Option.bind_some, right_eq, hrb, chan_eq c h.chans, hcb, tc, tr]
  have hdp : (0 ≤ x.A ∧ x.A < c.Defs.length ∧ ∃ q, lAt c.Defs x.A = some q) ∨ x.A < 0 ∨ (c.Defs.length : Int) ≤ x.A := by
    by_cases a1 : x.A < 0
    · exact .inr (.inl a1)
    by_cases a2 : (c.Defs.length : Int) ≤ x.A
    · exact .inr (.inr a2)
    obtain ⟨q, e, _⟩ := lAt_ok (l := c.Defs) (i := x.A) (by omega) (by omega)
    exact .inl ⟨by omega, by omega, q, e⟩
  have hout : x.Op < 1 ∨ 25 < x.Op → rb = false := fun ho => by
    have e1 := right_eq x
    unfold F_ins_Right at e1
    rw [find_out ho, hrb] at e1
    exact (Option.some.inj e1).symm
  clear hx tc tr hcb hrb
  obtain ⟨op, a, b⟩ := x
  simp only at hdp hout ⊢
  cases rb
  · cases (op == 24) <;> rfl
  · simp only [bne, Bool.not_true, cond_false]
    generalize (p == w64 (T - 1)) = pT
    generalize (p == d.Entry) = pE
    rcases opc op with ho | rfl | rfl | rfl | rfl | rfl | rfl | rfl | rfl | rfl | rfl | rfl | rfl | rfl | rfl | rfl | rfl | rfl | rfl | rfl | rfl | rfl | rfl | rfl | rfl | rfl
    · cases hout ho
    case inr.inr.inr.inr.inr.inr.inr.inr.inr.inr.inr.inr.inr.inr.inl =>
      rcases hdp with ⟨h2, h3, q, hq⟩ | h2 | h2
      · rw [dct h2, dct h3, dcf (show ¬ a < 0 by omega), dcf (show ¬ (c.Defs.length : Int) ≤ a by omega), hq]
        cases pT <;> cases pE <;> cases hb : (b == q.Params) <;> simp [hb]
      · rw [dcf (show ¬ 0 ≤ a by omega), dct h2]
        cases pT <;> cases pE <;> rfl
      · by_cases h3 : a < 0
        · rw [dcf (show ¬ 0 ≤ a by omega), dct h3]
          cases pT <;> cases pE <;> rfl
        · rw [dct (show 0 ≤ a by omega), dcf h3, dcf (show ¬ a < (c.Defs.length : Int) by omega), dct h2]
          cases pT <;> cases pE <;> rfl
    case inr.inr.inr.inr.inr.inr.inr.inr.inr.inl => cases cb <;> cases pT <;> cases pE <;> cases decide (a < 0) <;> cases decide (d.Vars ≤ a) <;> rfl
    all_goals
      by_cases h2 : 0 ≤ a
      · by_cases h3 : a < d.Vars
        · rw [dcf (show ¬ a < 0 by omega), dcf (show ¬ d.Vars ≤ a by omega)]
          simp only [dct h2, dct h3]
          cases pT <;> cases pE <;> first | rfl | (cases hm : (a == m) <;> first | rfl | simp [hm])
        · rw [dcf (show ¬ a < 0 by omega), dct (show d.Vars ≤ a by omega)]
          simp only [dct h2, dcf h3]
          cases pT <;> cases pE <;> first | rfl | (cases hm : (a == m) <;> first | rfl | simp [hm])
      · rw [dct (show a < 0 by omega)]
        simp only [dcf h2]
        cases pT <;> cases pE <;> first | rfl | (cases hm : (a == m) <;> first | rfl | simp [hm])
end Go.Ab
