/- Who is woken, and ticks. -/
import Derived.Test.YtgihgmnmefbjbaaKPClock2
namespace Go.Ab
set_option linter.unusedVariables false
theorem least_mem : ∀ (r : List Int) (t : Int), r.foldl least t ∈ t :: r
  | [], t => List.mem_singleton.mpr rfl
  | x :: r, t => by
    rw [List.foldl_cons]
    have h := least_mem r (least t x)
    unfold least at h ⊢
    split at h
    · rename_i e
      rw [if_pos e]
      exact List.mem_cons_of_mem _ h
    · rename_i e
      rw [if_neg e]
      rcases List.mem_cons.1 h with h | h
      · rw [h]; exact List.mem_cons_self ..
      · exact List.mem_cons_of_mem _ (List.mem_cons_of_mem _ h)
theorem due_cases {p : T_api_Proc} (h : (due p).2 = true) : p.Mode = 4 ∨ p.Mode = 3 ∧ ∃ a ∈ p.Alts, a.Kind = 3 ∧ a.Val = (due p).1 := by
  unfold due at h ⊢
  by_cases m4 : p.Mode = 4
  · exact .inl m4
  rw [if_neg m4] at h ⊢
  by_cases m3 : p.Mode = 3
  · refine .inr ⟨m3, ?_⟩
    rw [m3, fold_f] at h ⊢
    cases e : vals p.Alts with
    | nil => rw [e] at h; cases h
    | cons t r =>
      have := least_mem r t
      rw [← e] at this
      unfold vals at this
      obtain ⟨a, ha, ev⟩ := List.mem_map.1 this
      rw [List.mem_filter] at ha
      exact ⟨a, ha.1, by simpa using ha.2, ev⟩
  · rw [fold_none p.Mode m3] at h; cases h
def wakeB (p : T_api_Proc) (now : Int) : Bool := (due p).2 && decide ((due p).1 ≤ now)
theorem wake_eq (c : T_api_Code) (hi : c.Ins.length ≤ 150) (p : T_api_Proc) (hl : p.Alts.length ≤ 40) (hv : p.Vars.length ≤ 1000) (now : Int) :
    ∃ q, F_clock_Wake c p now = some (q, wakeB p now) ∧ F_retraceref26_Wake c p now = some ⟨q, wakeB p now⟩ ∧ (wakeB p now = false → q = p) ∧
      (wakeB p now = true → ∃ a n, F_retraceref20_Settle c a = some n ∧ q = goesR c p n ∧ (p.Mode = 4 ∧ a = p.At ∨ p.Mode = 3 ∧ ∃ x ∈ p.Alts, a = x.Goto)) := by
  have hd := due_cases (p := p)
  unfold F_clock_Wake F_retraceref26_Wake wakeB
  rw [due_eq p hl, rdue_eq p hl]
  simp only [Option.bind_some]
  generalize due p = d at hd ⊢
  obtain ⟨x, b⟩ := d
  cases b with
  | false => exact ⟨p, rfl, rfl, fun _ => rfl, fun h => by cases h⟩
  | true =>
  have hd := hd rfl
  simp only [Bool.not_true, cond_false, Bool.true_and]
  by_cases hx : x ≤ now
  · rw [dcf (show ¬ now < x by omega), dct hx]
    unfold F_clock_Wake_J1 F_retraceref26_Wake_J1 F_clock_Wake_J2
    simp only [cond_false]
    rcases hd with m4 | ⟨m3, a, ha, k3, va⟩
    · obtain ⟨n, e1, e2, e3⟩ := goes_eq c hi p hv p.At
      refine ⟨goesR c p n, ?_, ?_, (fun h => nomatch h), fun _ => ⟨p.At, n, e1, rfl, .inl ⟨m4, rfl⟩⟩⟩
      · rw [beqf (show ¬ p.Mode = 3 by omega), e2]; rfl
      · rw [beqt m4, e3]; rfl
    · have ei : F_slices_IndexFunc_retrace_api_Alt_retrace_api_Alt p.Alts now = some (match p.Alts.findIdx? (fun a => a.Kind == 3 && decide (a.Val ≤ now)) with | some k => (k : Int) | none => -1) := by
        unfold F_slices_IndexFunc_retrace_api_Alt_retrace_api_Alt
        refine Loop_find p.Alts (by omega) (fun a => a.Kind == 3 && decide (a.Val ≤ now)) (fun k => (k : Int)) (-1) (fun k hk => ?_) ?_
        · unfold F_slices_IndexFunc_retrace_api_Alt_retrace_api_Alt_L1 F_clock_Wake_1 F_clock_Wake_1_J1
          rw [dct (by omega), lAt_lt hk]
          simp only [cond_true, Option.bind_some]
          cases (p.Alts[k].Kind == 3) <;> cases decide (p.Alts[k].Val ≤ now) <;> rfl
        · unfold F_slices_IndexFunc_retrace_api_Alt_retrace_api_Alt_L1
          rw [dcf (by omega)]; rfl
      have er : Loop (fun s : (Int) => F_retraceref26_Wake_L3 c p now s) 0 = some (match p.Alts.findIdx? (fun a => a.Kind == 3 && decide (a.Val ≤ now)) with | some k => (⟨(F_retraceref22_Goes c p ((p.Alts[k]?).getD ⟨0, 0, 0, 0, 0⟩).Goto).getD p, true⟩ : T_retraceref26_Woken) | none => ⟨p, false⟩) := by
        refine Loop_find p.Alts (by omega) (fun a => a.Kind == 3 && decide (a.Val ≤ now)) (fun k => (⟨(F_retraceref22_Goes c p ((p.Alts[k]?).getD ⟨0, 0, 0, 0, 0⟩).Goto).getD p, true⟩ : T_retraceref26_Woken)) ⟨p, false⟩ (fun k hk => ?_) ?_
        · unfold F_retraceref26_Wake_L3 F_retraceref26_Wake_J2
          rw [dct (by omega), lAt_lt hk]
          obtain ⟨n, e1, e2, e3⟩ := goes_eq c hi p hv p.Alts[k].Goto
          simp only [cond_true, Option.bind_some, List.getElem?_eq_getElem hk, Option.getD_some, e3]
          cases (p.Alts[k].Kind == 3) <;> cases decide (p.Alts[k].Val ≤ now) <;> rfl
        · unfold F_retraceref26_Wake_L3
          rw [dcf (by omega)]; rfl
      rw [beqt m3, cond_true, ei, beqf (show ¬ p.Mode = 4 by omega), cond_false, er]
      cases e : p.Alts.findIdx? (fun a => a.Kind == 3 && decide (a.Val ≤ now)) with
      | none =>
        rw [List.findIdx?_eq_none_iff] at e
        have := e a ha
        rw [beqt k3, dct (by omega)] at this
        cases this
      | some k =>
        rw [List.findIdx?_eq_some_iff_getElem] at e
        obtain ⟨hk, _, _⟩ := e
        obtain ⟨n, e1, e2, e3⟩ := goes_eq c hi p hv p.Alts[k].Goto
        refine ⟨goesR c p n, ?_, ?_, (fun h => nomatch h), fun _ => ⟨p.Alts[k].Goto, n, e1, rfl, .inr ⟨m3, p.Alts[k], List.getElem_mem hk, rfl⟩⟩⟩
        · simp only [Option.bind_some]
          rw [lAt_lt hk]
          simp only [Option.bind_some]
          rw [e2]; rfl
        · simp only [List.getElem?_eq_getElem hk, Option.getD_some, e3]
  · rw [dct (show now < x by omega), dcf hx]
    exact ⟨p, rfl, rfl, fun _ => rfl, fun h => by cases h⟩
noncomputable def wakeP (c : T_api_Code) (now : Int) (p : T_api_Proc) : T_api_Proc := ((F_clock_Wake c p now).getD (p, false)).1
theorem wakeP_eq (c : T_api_Code) (hi : c.Ins.length ≤ 150) (p : T_api_Proc) (hl : p.Alts.length ≤ 40) (hv : p.Vars.length ≤ 1000) (now : Int) :
    F_clock_Wake c p now = some (wakeP c now p, wakeB p now) ∧ F_retraceref26_Wake c p now = some ⟨wakeP c now p, wakeB p now⟩ ∧ (wakeB p now = false → wakeP c now p = p) ∧
      (wakeB p now = true → ∃ a n, F_retraceref20_Settle c a = some n ∧ wakeP c now p = goesR c p n ∧ (p.Mode = 4 ∧ a = p.At ∨ p.Mode = 3 ∧ ∃ x ∈ p.Alts, a = x.Goto)) := by
  obtain ⟨q, h1, h2, h3, h4⟩ := wake_eq c hi p hl hv now
  have : wakeP c now p = q := by unfold wakeP; rw [h1]; rfl
  rw [this]
  exact ⟨h1, h2, h3, h4⟩
theorem goesR_vars (c : T_api_Code) (p : T_api_Proc) (n : Int) : (goesR c p n).Vars = p.Vars ∧ (goesR c p n).Alts = [] ∧ (goesR c p n).Fuel = p.Fuel ∧ (goesR c p n).Def = p.Def ∧ ((goesR c p n).Mode = 0 ∨ (goesR c p n).Mode = 5) := by
  unfold goesR
  cases endB c n
  · exact ⟨rfl, rfl, rfl, rfl, .inl rfl⟩
  · exact ⟨rfl, rfl, rfl, rfl, .inr rfl⟩
theorem wakeP_len (c : T_api_Code) (hi : c.Ins.length ≤ 150) (p : T_api_Proc) (hl : p.Alts.length ≤ 40) (hv : p.Vars.length ≤ 1000) (now : Int) :
    (wakeP c now p).Vars.length ≤ 1000 ∧ (wakeP c now p).Alts.length ≤ 40 ∧ (wakeP c now p).Fuel = p.Fuel := by
  obtain ⟨_, _, h3, h4⟩ := wakeP_eq c hi p hl hv now
  cases e : wakeB p now with
  | false => rw [h3 e]; exact ⟨hv, hl, rfl⟩
  | true =>
    obtain ⟨a, n, _, h, _⟩ := h4 e
    obtain ⟨g1, g2, g3, _⟩ := goesR_vars c p n
    rw [h, g1, g2, g3]; exact ⟨hv, by simp, rfl⟩
def wkf : List Bool → Int → List Int
  | [], _ => []
  | b :: l, i => (if b = true then [i] else []) ++ wkf l (i + 1)
theorem wkf_app : ∀ (a b : List Bool) (i : Int), wkf (a ++ b) i = wkf a i ++ wkf b (i + a.length)
  | [], b, i => by simp [wkf]
  | x :: a, b, i => by
    rw [List.cons_append, wkf, wkf, wkf_app a b (i + 1), List.append_assoc, List.length_cons, show i + 1 + (a.length : Int) = i + ((a.length + 1 : Nat) : Int) by omega]
theorem wkf_len : ∀ (l : List Bool) (i : Int), (wkf l i).length ≤ l.length
  | [], i => Nat.le_refl _
  | b :: l, i => by
    have := wkf_len l (i + 1)
    rw [wkf, List.length_append, List.length_cons]
    cases b <;> simp <;> omega
theorem wkf_none : ∀ (l : List Bool) (i : Int), (∀ b ∈ l, b = false) → wkf l i = []
  | [], i, _ => rfl
  | b :: l, i, h => by
    rw [wkf, h b (List.mem_cons_self ..), wkf_none l (i + 1) (fun x hx => h x (List.mem_cons_of_mem _ hx))]
    rfl
theorem tick_eq (c : T_api_Code) (hi : c.Ins.length ≤ 150) (ps : List T_api_Proc) (hn : ps.length ≤ 20) (hp : ∀ p ∈ ps, p.Alts.length ≤ 40 ∧ p.Vars.length ≤ 1000) (now : Int) :
    F_clock_Tick c ps now = some (ps.map (wakeP c now), wkf (ps.map (fun p => wakeB p now)) 0) := by
  unfold F_clock_Tick F_slices_Clone_retrace_api_Proc_retrace_api_Proc
  rw [grd_t (by simp; omega)]
  simp only [Option.bind_some, List.nil_append]
  have e := Loop_nat (step := fun s : (Int × (List T_api_Proc) × (List Int)) => F_clock_Tick_L1 c now ps s.1 s.2.1 s.2.2) (r := (ps.map (wakeP c now), wkf (ps.map (fun p => wakeB p now)) 0))
    (fun k => ((k : Int), (ps.take k).map (wakeP c now) ++ ps.drop k, wkf ((ps.take k).map (fun p => wakeB p now)) 0)) ps.length (fun k hk => ?_) ?_
  · exact e
  · show F_clock_Tick_L1 c now ps (k : Int) _ _ = _
    unfold F_clock_Tick_L1 F_clock_Tick_1
    obtain ⟨w1, _⟩ := wakeP_eq c hi ps[k] (hp _ (List.getElem_mem hk)).1 (hp _ (List.getElem_mem hk)).2 now
    have hlen : ((ps.take k).map (wakeP c now)).length = k := by rw [List.length_map, List.length_take]; omega
    have hat : lAt ((ps.take k).map (wakeP c now) ++ ps.drop k) (k : Int) = some ps[k] := by
      rw [lAtn, List.getElem?_append_right (by omega), hlen, Nat.sub_self, List.drop_eq_getElem_cons hk]; rfl
    rw [dct (by omega), hat]
    simp only [cond_true, Option.bind_some, w1]
    have hset : List.set ((ps.take k).map (wakeP c now) ++ ps.drop k) (Int.toNat (k : Int)) (wakeP c now ps[k]) = (ps.take (k + 1)).map (wakeP c now) ++ ps.drop (k + 1) := by
      rw [show Int.toNat (k : Int) = k from rfl, List.set_append_right _ _ (by omega), hlen, Nat.sub_self, List.drop_eq_getElem_cons hk, List.set_cons_zero, take_snoc hk, List.map_append, List.append_assoc]
      rfl
    rw [hset, w64s (by omega)]
    have hl := wkf_len ((ps.take k).map (fun p => wakeB p now)) 0
    have hw : wkf ((ps.take (k + 1)).map (fun p => wakeB p now)) 0 = wkf ((ps.take k).map (fun p => wakeB p now)) 0 ++ (if wakeB ps[k] now = true then [(k : Int)] else []) := by
      rw [take_snoc hk, List.map_append, wkf_app, List.length_map, List.length_take, Nat.min_eq_left (by omega)]
      simp [wkf]
    rw [hw]
    rw [List.length_map, List.length_take, Nat.min_eq_left (by omega)] at hl
    cases wakeB ps[k] now with
    | true =>
      rw [cond_true, grd_t (by simp only [List.length_cons, List.length_nil]; omega)]
      simp
    | false => simp
  · show F_clock_Tick_L1 c now ps (ps.length : Int) _ _ = _
    unfold F_clock_Tick_L1
    rw [dcf (by omega), List.take_length, List.drop_length, List.append_nil]
    rfl
theorem law_ticks (c : T_api_Code) (ps : List T_api_Proc) (now : Int) (dn : ∀ d ∈ c.Defs, d.Name.size ≤ maxLen) (cn : ∀ d ∈ c.Chans, d.Name.size ≤ maxLen) : F_retracelaw26_ClockTicks c ps now = some true := by
  unfold F_retracelaw26_ClockTicks

  obtain ⟨s, es, hs⟩ := ok_small c ps dn cn
  rw [es, ev_retracelaw26_live]
  cases s with
  | false => rfl
  | true =>
  have hp := hs rfl
  have hlen := hp.len
  have hi := hp.sm.ins
  have hpp : ∀ p ∈ ps, p.Alts.length ≤ 40 ∧ p.Vars.length ≤ 1000 := fun p h => ⟨(hp.each p h).1, by have := (hp.each p h).2.1; omega⟩
  simp only [Option.bind_some, Bool.not_true, cond_false, List.nil_append]
  rw [grd_t (by simp; omega), tick_eq c hi ps hlen hpp now]
  simp only [Option.bind_some]
  rw [show (((ps.map (wakeP c now)).length : Int) != (ps.length : Int)) = false by simp, cond_false]
  let bs := ps.map (fun p => wakeB p now)
  have hbs : bs.length = ps.length := List.length_map ..
  have e := Loop_nat (step := fun s : (Int × Int) => F_retracelaw26_ClockTicks_L5 c ps now (ps.map (wakeP c now), wkf bs 0) s.1 s.2) (r := true)
    (fun k => (((wkf (bs.take k) 0).length : Int), (k : Int))) ps.length (fun k hk => ?_) ?_
  · exact e
  · show F_retracelaw26_ClockTicks_L5 c ps now (ps.map (wakeP c now), wkf bs 0) ((wkf (bs.take k) 0).length : Int) (k : Int) = _
    unfold F_retracelaw26_ClockTicks_L5
    have hm := hpp _ (List.getElem_mem hk)
    obtain ⟨w1, w2, _⟩ := wakeP_eq c hi ps[k] hm.1 hm.2 now
    obtain ⟨l1, l2, _⟩ := wakeP_len c hi ps[k] hm.1 hm.2 now
    have hat : lAt (ps.map (wakeP c now)) (k : Int) = some (wakeP c now ps[k]) := by rw [lAtn, List.getElem?_map, List.getElem?_eq_getElem hk]; rfl
    rw [dct (by omega), lAt_lt hk, hat]
    simp only [cond_true, Option.bind_some, w1, w2]
    rw [same_self _ (by omega) (by omega)]
    have hat2 : lAt (([] : List T_api_Proc) ++ ps) (k : Int) = some ps[k] := by rw [List.nil_append, lAt_lt hk]
    rw [hat2]
    simp only [Option.bind_some]
    rw [same_self ps[k] (by omega) (by omega)]
    simp only [Option.bind_some, beq_self_eq_true, Bool.not_true, cond_false]
    have hsplit : wkf bs 0 = wkf (bs.take k) 0 ++ ((if wakeB ps[k] now = true then [(k : Int)] else []) ++ wkf (bs.drop (k + 1)) (k + 1)) := by
      have e1 : bs = bs.take k ++ bs.drop k := (List.take_append_drop k bs).symm
      have e2 : bs.drop k = wakeB ps[k] now :: bs.drop (k + 1) := by rw [List.drop_eq_getElem_cons (by omega)]; simp [bs]
      conv => lhs; rw [e1, wkf_app, e2, wkf]
      rw [List.length_take, Nat.min_eq_left (by omega), Int.zero_add]
    have hnext : wkf (bs.take (k + 1)) 0 = wkf (bs.take k) 0 ++ (if wakeB ps[k] now = true then [(k : Int)] else []) := by
      rw [take_snoc (show k < bs.length by omega), wkf_app, List.length_take, Nat.min_eq_left (by omega)]
      simp [wkf, bs]
    have hl := wkf_len (bs.take k) 0
    rw [List.length_take] at hl
    unfold F_retracelaw26_ClockTicks_J2 F_retracelaw26_ClockTicks_J3 F_retracelaw26_ClockTicks_J1
    rw [hnext, cond_false, w64s (by omega)]
    cases hb : wakeB ps[k] now with
    | true =>
      rw [hb] at hsplit
      simp only [cond_true]
      have h3 : lAt (wkf bs 0) ((wkf (bs.take k) 0).length : Int) = some (k : Int) := by
        rw [hsplit, lAtn, List.getElem?_append_right (by omega), Nat.sub_self]; rfl
      have h4 : ¬ ((wkf bs 0).length : Int) ≤ ((wkf (bs.take k) 0).length : Int) := by
        rw [hsplit, List.length_append]; simp; omega
      rw [dcf h4, h3]
      simp only [cond_false, Option.bind_some, bne, beq_self_eq_true, Bool.not_true]
      rw [w64s (by omega), if_pos trivial, List.length_append]
      rfl
    | false =>
      simp only [cond_false, Bool.false_eq_true, if_false, List.append_nil]
      rw [w64s (by omega)]
  · show F_retracelaw26_ClockTicks_L5 c ps now (ps.map (wakeP c now), wkf bs 0) ((wkf (bs.take ps.length) 0).length : Int) (ps.length : Int) = _
    unfold F_retracelaw26_ClockTicks_L5 F_retracelaw26_ClockTicks_J4
    rw [dcf (by omega), ← hbs, List.take_length, ev_retracelaw26_live]
    simp
theorem due_goes (c : T_api_Code) (p : T_api_Proc) (n : Int) : due (goesR c p n) = (0, false) := by
  obtain ⟨_, g2, _, _, g5⟩ := goesR_vars c p n
  unfold due
  rw [if_neg (by omega), g2]
  rfl
theorem isPB_rests {c : T_api_Code} {p : T_api_Proc} (h : isPB c p = true) : (p.Mode = 4 → restsB c p.Def p.At = true) ∧ (p.Mode = 3 → ∀ x ∈ p.Alts, restsB c p.Def x.Goto = true) := by
  unfold isPB at h
  simp only [Bool.and_eq_true] at h
  obtain ⟨_, _, _, _, _, h⟩ := h
  unfold modeB at h
  refine ⟨fun m => ?_, fun m x hx => ?_⟩
  · rw [if_neg (by omega), if_neg (by omega), if_neg (by omega), if_pos m, Bool.and_eq_true] at h
    exact h.1
  · rw [if_neg (by omega), if_neg (by omega), if_neg (by omega), if_neg (by omega), if_neg (by omega), if_pos m, Bool.and_eq_true] at h
    have := List.all_eq_true.1 h.1 x hx
    unfold altB at this
    rw [Bool.and_eq_true] at this
    exact this.1
theorem law_after (c : T_api_Code) (ps : List T_api_Proc) (now : Int) (dn : ∀ d ∈ c.Defs, d.Name.size ≤ maxLen) (cn : ∀ d ∈ c.Chans, d.Name.size ≤ maxLen) : F_retracelaw26_ClockAfter c ps now = some true := by
  unfold F_retracelaw26_ClockAfter

  obtain ⟨s, es, hs⟩ := ok_small c ps dn cn
  rw [es, ev_retracelaw26_live]
  cases s with
  | false => rfl
  | true =>
  have hp := hs rfl
  have hlen := hp.len
  have hi := hp.sm.ins
  have hpp : ∀ p ∈ ps, p.Alts.length ≤ 40 ∧ p.Vars.length ≤ 1000 := fun p h => ⟨(hp.each p h).1, by have := (hp.each p h).2.1; omega⟩
  have his : ∀ p ∈ ps, isPB c p = true := fun p h => by
    have := (hp.each p h).2.2
    rw [isP_eq c hp.sm p (hp.each p h).1] at this
    exact Option.some.inj this
  simp only [Option.bind_some, Bool.not_true, cond_false]
  rw [tick_eq c hi ps hlen hpp now]
  simp only [Option.bind_some]
  rw [show (((ps.map (wakeP c now)).length : Int) != (ps.length : Int)) = false by simp, cond_false]
  have hdue : ∀ p ∈ ps, wakeB (wakeP c now p) now = false := fun p h => by
    obtain ⟨_, _, h3, h4⟩ := wakeP_eq c hi p (hpp p h).1 (hpp p h).2 now
    cases e : wakeB p now with
    | false => rw [h3 e]; exact e
    | true =>
      obtain ⟨a, n, _, h, _⟩ := h4 e
      unfold wakeB
      rw [h, due_goes]; rfl
  have hisp : ∀ p ∈ ps, isPB c (wakeP c now p) = true := fun p h => by
    obtain ⟨_, _, h3, h4⟩ := wakeP_eq c hi p (hpp p h).1 (hpp p h).2 now
    cases e : wakeB p now with
    | false => rw [h3 e]; exact his p h
    | true =>
      obtain ⟨a, n, hn, hq, hr⟩ := h4 e
      obtain ⟨r1, r2⟩ := isPB_rests (his p h)
      have hra : restsB c p.Def a = true := by
        rcases hr with ⟨m, ea⟩ | ⟨m, x, hx, ea⟩
        · rw [ea]; exact r1 m
        · rw [ea]; exact r2 m x hx
      rw [settle_rest hi hra] at hn
      cases hn
      rw [hq]; exact isP_goes (his p h) hra
  have e := Loop_nat (step := fun s : (Int) => F_retracelaw26_ClockAfter_L3 c ps now (ps.map (wakeP c now), wkf (ps.map (fun p => wakeB p now)) 0) s) (r := true) (fun k => (k : Int)) ps.length (fun k hk => ?_) ?_
  · exact e
  · show F_retracelaw26_ClockAfter_L3 c ps now (ps.map (wakeP c now), _) (k : Int) = _
    unfold F_retracelaw26_ClockAfter_L3 F_retracelaw26_ClockAfter_J1
    have hmem := List.getElem_mem hk
    have hm := hpp _ hmem
    obtain ⟨l1, l2, l3⟩ := wakeP_len c hi ps[k] hm.1 hm.2 now
    have hat : lAt (ps.map (wakeP c now)) (k : Int) = some (wakeP c now ps[k]) := by rw [lAtn, List.getElem?_map, List.getElem?_eq_getElem hk]; rfl
    have hd := hdue _ hmem
    rw [dct (by simp; omega), lAt_lt hk, hat]
    simp only [cond_true, Option.bind_some, due_eq _ l2, isP_eq c hp.sm _ l2, hisp _ hmem, Bool.not_true, cond_false, l3, bne, beq_self_eq_true]
    rw [w64s (by omega)]
    unfold wakeB at hd
    cases e2 : (due (wakeP c now ps[k])).2 with
    | false => rfl
    | true =>
      rw [e2, Bool.true_and] at hd
      rw [hd]; rfl
  · show F_retracelaw26_ClockAfter_L3 c ps now (ps.map (wakeP c now), _) (ps.length : Int) = _
    unfold F_retracelaw26_ClockAfter_L3 F_retracelaw26_ClockAfter_J2
    rw [dcf (by simp)]
    simp only [cond_false]
    rw [tick_eq c hi (ps.map (wakeP c now)) (by simpa using hlen) (fun p h => by
      obtain ⟨q, hq, rfl⟩ := List.mem_map.1 h
      obtain ⟨l1, l2, l3⟩ := wakeP_len c hi q (hpp q hq).1 (hpp q hq).2 now
      exact ⟨l2, l1⟩) now]
    simp only [Option.bind_some]
    rw [wkf_none _ 0 (fun b hb => by
      obtain ⟨q, hq, rfl⟩ := List.mem_map.1 hb
      obtain ⟨p, hp', rfl⟩ := List.mem_map.1 hq
      exact hdue p hp'), ev_retracelaw26_live]
    simp
end Go.Ab
