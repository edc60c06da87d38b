/- The steps of events, one behind the other. -/
import Derived.Test.YthjalpodmnagnaaPEvent2
namespace Go.Ab
set_option linter.unusedVariables false
def cnt (l : List Ev) (i : Nat) : Nat := (bg (l.take i)).length
theorem cnt_le (l : List Ev) (i : Nat) : cnt l i ≤ i := by
  have h := bgI_len (l.take i) 0
  rw [List.length_take] at h
  unfold cnt bg; omega
theorem cnt_succ {l : List Ev} {i : Nat} (h : i < l.length) : cnt l (i + 1) = cnt l i + (if l[i].Kind = 1 then 1 else 0) := by
  unfold cnt
  rw [bg_snoc h, List.length_append]
  split <;> rfl
theorem cnt_all (l : List Ev) : cnt l l.length = (bg l).length := by unfold cnt; rw [List.take_length]
theorem beg_at {l : List Ev} {i : Nat} (h : i < l.length) (hk : l[i].Kind = 1) : beginV l (cnt l i) = i := by
  unfold beginV cnt
  rw [if_neg (by omega), Int.toNat_natCast]
  have e : bg l = bg (l.take i) ++ ((i : Int) :: bgI (l.drop (i + 1)) ((i : Int) + 1)) := by
    have e1 : bg l = bg (l.take i ++ l.drop i) := by rw [List.take_append_drop]
    rw [e1]
    unfold bg
    rw [bgI_app, List.drop_eq_getElem_cons h, bgI, if_pos hk, List.length_take, Nat.min_eq_left (by omega), Int.zero_add]
    rfl
  rw [e, List.append_assoc, List.getElem?_append_right (Nat.le_refl _), Nat.sub_self]
  rfl
theorem beg_end (l : List Ev) : beginV l ((bg l).length : Int) = l.length := by
  unfold beginV
  rw [if_neg (by omega), Int.toNat_natCast, List.getElem?_append_right (Nat.le_refl _), Nat.sub_self]
  rfl
def seg (l : List Ev) (b t : Nat) : List Ev := (l.take t).drop b
theorem seg_app (l : List Ev) (b f t : Nat) (h1 : b ≤ f) (h2 : f ≤ t) (h3 : t ≤ l.length) : seg l b f ++ lCut l (f : Int) (t : Int) = seg l b t := by
  unfold seg lCut
  rw [Int.toNat_natCast, show ((t : Int) - (f : Int)).toNat = t - f by omega]
  have e : l.take t = l.take f ++ (l.drop f).take (t - f) := by rw [← List.take_add]; congr 1; omega
  rw [e, List.drop_append_of_le_length (by rw [List.length_take]; omega)]
theorem seg_len (l : List Ev) (b t : Nat) : (seg l b t).length ≤ l.length := by
  unfold seg; rw [List.length_drop, List.length_take]; omega
theorem lcut_len (l : List Ev) (a b : Int) : (lCut l a b).length ≤ l.length := by
  unfold lCut; rw [List.length_take, List.length_drop]; omega
theorem give_ok (l : List Ev) (stop : Int) (hl : l.length ≤ 300) (bo : Bool) (j f t : Nat) (hj : j ≤ 1000) (hf : beginV l j = f) (ht : beginV l (j + 1) = t) (h2 : f ≤ t) (h3 : t ≤ l.length) (all : List Ev) (ha : all.length ≤ 300) :
    F_event_Each_1_1 (t : Int) (f : Int) l stop bo (j : Int) ((j : Int) + 1) l all =
      some (if (j : Int) + 1 = stop then .inr (.inr ((t : Int), (j : Int) + 1, (j : Int) + 2, all ++ lCut l (f : Int) (t : Int))) else .inl ((t : Int), (j : Int) + 1, (j : Int) + 2, all ++ lCut l (f : Int) (t : Int))) := by
  have hlc := lcut_len l (f : Int) (t : Int)
  unfold F_event_Each_1_1 F_slices_Clone_retrace_api_Event_retrace_api_Event
  rw [dcf (by omega), cond_false, grd_t ⟨by omega, by omega, by omega⟩, grd_t (by simp; omega)]
  simp only [Option.bind_some, List.nil_append]
  rw [w64i (n := (j : Int) + 1 - 1) (by omega) (by omega), show (j : Int) + 1 - 1 = j by omega]
  unfold F_R_retracelaw31_EventGoes_0
  rw [rbegin_eq l j (by omega), w64i (n := (j : Int) + 1) (by omega) (by omega), rbegin_eq l _ (by omega), hf, ht]
  simp only [Option.bind_some, bne, beq_self_eq_true, Bool.not_true, cond_false]
  rw [dcf (by omega), cond_false, grd_t ⟨by omega, by omega, by omega⟩, sameE_eq _ _ (by omega) true (by simp)]
  simp only [Option.bind_some, Bool.not_true]
  unfold F_R_retracelaw31_EventGoes_0_J1 F_event_Each_1_1_J1 F_event_Each_1_1_J3
  rw [cond_false, grd_t (by omega), w64i (n := (j : Int) + 1) (by omega) (by omega), w64i (n := (j : Int) + 1 + 1) (by omega) (by omega)]
  by_cases hs : (j : Int) + 1 = stop
  · rw [beqt hs, if_pos hs]
    simp only [cond_true, Option.bind_some, Sum.elim_inr, Sum.elim_inl]
    rw [show (j : Int) + 1 + 1 = (j : Int) + 2 by omega]
  · rw [beqf hs, if_neg hs]
    simp only [cond_false, Option.bind_some, Sum.elim_inr]
    rw [show (j : Int) + 1 + 1 = (j : Int) + 2 by omega]
theorem give_first (l : List Ev) (stop : Int) (bo : Bool) (t : Int) (n e : Int) (he : -1000 ≤ e ∧ e ≤ 1000) (all : List Ev) : F_event_Each_1_1 t (-1) l stop bo n e l all = some (.inl (t, n, e + 1, all)) := by
  unfold F_event_Each_1_1 F_event_Each_1_1_J1
  rw [dct (by omega), w64i (by omega) (by omega)]; rfl
abbrev GS := Int × Int × Int × List Ev × Int
/-- where one stands behind the first i events -/
def GI (l : List Ev) (i : Nat) (s : GS) : Prop :=
  s.1 = i ∧ i ≤ l.length ∧ s.2.2.2.2 = cnt l i ∧
    (if cnt l i = 0 then s.2.1 = -1 ∧ s.2.2.1 = 0 ∧ s.2.2.2.1 = []
     else ∃ b f : Nat, beginV l 0 = b ∧ s.2.1 = f ∧ beginV l ((cnt l i : Int) - 1) = f ∧ b ≤ f ∧ f < i ∧ s.2.2.1 = (cnt l i : Int) - 1 ∧ s.2.2.2.1 = seg l b f)
abbrev GR := (Int × Bool × Int × Int × List Ev) ⊕ (Int × Int × Int × List Ev) ⊕ (Int × Int × Int × List Ev)
def GQ (l : List Ev) (stop : Int) : GR → Prop
  | .inl _ => False
  | .inr (.inl (f, n, e, a)) => n = stop ∧ (n = (bg l).length → ∃ b : Nat, beginV l 0 = b ∧ a = seg l b l.length) ∧ 1 ≤ n
  | .inr (.inr (f, n, e, a)) => GI l l.length ((l.length : Int), f, n, a, e)
theorem begins_goes (l : List Ev) (stop : Int) (hl : l.length ≤ 300) : OkP (F_event_begins_1_v3 (-1) l stop false 0 0 l l []) (GQ l stop) := by
  unfold F_event_begins_1_v3
  refine Loop_ok (step := fun s : GS => F_event_begins_1_v3_L4 l stop false l l s.1 s.2.1 s.2.2.1 s.2.2.2.1 s.2.2.2.2) (fun s => ∃ i, GI l i s) (fun s => (l.length + 1 - s.1).toNat) (fun s hs => ?_) _ ⟨0, rfl, Nat.zero_le _, rfl, ?_⟩
  · obtain ⟨i, h1, h2, h3, h4⟩ := hs
    obtain ⟨x1, x2, x3, x4, x5⟩ := s
    replace h1 : x1 = i := h1
    replace h3 : x5 = cnt l i := h3
    subst h1 h3
    show OkP (F_event_begins_1_v3_L4 l stop false l l (i : Int) x2 x3 x4 (cnt l i : Int)) _
    have hc := cnt_le l i
    unfold F_event_begins_1_v3_L4
    refine OkP.condD (fun hv => ?_) (fun hv => OkP.map (OkP.ret ?_))
    · have hi : i < l.length := by omega
      have hcs := cnt_succ hi
      rw [lAt_lt hi]
      simp only [Option.bind_some]
      unfold F_event_begins_1_v3_J1 F_event_begins_1_v3_J3
      by_cases hk : l[i].Kind = 1
      · rw [if_pos hk] at hcs
        rw [beqt hk, cond_true]
        unfold F_R_event_Each_1_0 F_R_event_Each_1_0_J1 F_R_event_Each_1_0_J3
        have hbi := beg_at hi hk
        by_cases c0 : cnt l i = 0
        · replace h4 : x2 = -1 ∧ x3 = 0 ∧ x4 = [] := by rw [if_pos c0] at h4; exact h4
          obtain ⟨rfl, rfl, rfl⟩ := h4
          rw [give_first l stop false (i : Int) 0 (cnt l i : Int) (by omega) []]
          simp only [Option.bind_some, Sum.elim_inl]
          rw [w64s (by omega)]
          refine OkP.ret ⟨⟨i + 1, rfl, hi, ?_, ?_⟩, ?_⟩
          · show (cnt l i : Int) + 1 = _; omega
          · rw [if_neg (by omega)]
            rw [c0] at hbi
            refine ⟨i, i, hbi, rfl, ?_, Nat.le_refl _, by omega, ?_, ?_⟩
            · rw [show ((cnt l (i + 1) : Nat) : Int) - 1 = ((0 : Nat) : Int) by omega]; exact hbi
            · show (0 : Int) = _; omega
            · show [] = seg l i i
              unfold seg
              rw [List.drop_eq_nil_of_le (by rw [List.length_take]; omega)]
          · show (l.length + 1 - ((i + 1 : Nat) : Int)).toNat < (l.length + 1 - (i : Int)).toNat; omega
        · rw [if_neg c0] at h4
          obtain ⟨b, f, hb, hx2, hf, hbf, hfi, hx3, hx4⟩ := h4
          replace hx2 : x2 = f := hx2
          replace hx3 : x3 = (cnt l i : Int) - 1 := hx3
          replace hx4 : x4 = seg l b f := hx4
          obtain ⟨j, hj⟩ : ∃ j : Nat, cnt l i = j + 1 := ⟨cnt l i - 1, by omega⟩
          have hj1 : (cnt l i : Int) = (j : Int) + 1 := by omega
          subst hx2 hx3 hx4
          rw [hj1] at hf hbi ⊢
          rw [show (j : Int) + 1 - 1 = j by omega] at hf ⊢
          have hsl := seg_len l b f
          rw [give_ok l stop hl false j f i (by omega) hf hbi (by omega) h2 (seg l b f) (by omega)]
          simp only [Option.bind_some]
          rw [seg_app l b f i hbf (by omega) h2]
          by_cases hst : (j : Int) + 1 = stop
          · rw [if_pos hst]
            simp only [Sum.elim_inr, Option.bind_some]
            refine OkP.map (OkP.ret ⟨hst, fun hK => ?_, by omega⟩)
            -- the last step ends at the end alone
            have hbK := beg_end l
            rw [← hK] at hbK
            rw [hbK] at hbi
            exact ⟨b, hb, by rw [show l.length = i by omega]⟩
          · rw [if_neg hst]
            simp only [Sum.elim_inl, Option.bind_some]
            rw [w64s (by omega)]
            refine OkP.ret ⟨⟨i + 1, rfl, hi, ?_, ?_⟩, ?_⟩
            · show (j : Int) + 2 = _; omega
            · rw [if_neg (by omega)]
              refine ⟨b, i, hb, rfl, ?_, by omega, by omega, ?_, rfl⟩
              · rw [show ((cnt l (i + 1) : Nat) : Int) - 1 = (j : Int) + 1 by omega]; exact hbi
              · show (j : Int) + 1 = _; omega
            · show (l.length + 1 - ((i + 1 : Nat) : Int)).toNat < (l.length + 1 - (i : Int)).toNat; omega
      · rw [if_neg hk] at hcs
        replace hcs : cnt l (i + 1) = cnt l i := hcs
        rw [beqf hk, cond_false, w64s (by omega)]
        refine OkP.ret ⟨⟨i + 1, rfl, hi, ?_, ?_⟩, ?_⟩
        · show (cnt l i : Int) = _; omega
        · rw [hcs]
          by_cases c0 : cnt l i = 0
          · rw [if_pos c0] at h4 ⊢; exact h4
          · rw [if_neg c0] at h4 ⊢
            obtain ⟨b, f, hb, hx2, hf, hbf, hfi, hx3, hx4⟩ := h4
            exact ⟨b, f, hb, hx2, hf, hbf, by omega, hx3, hx4⟩
        · show (l.length + 1 - ((i + 1 : Nat) : Int)).toNat < (l.length + 1 - (i : Int)).toNat; omega
    · have hi : i = l.length := by omega
      subst hi
      exact ⟨rfl, Nat.le_refl _, rfl, h4⟩
  · have : cnt l 0 = 0 := by have := cnt_le l 0; omega
    rw [if_pos this]
    exact ⟨rfl, rfl, rfl⟩
theorem right_head {x : Ev} {l : List Ev} (h : (chk (x :: l)).2 = 0) : x.Kind = 1 := by
  unfold chk at h
  split at h
  · cases h
  · rename_i e
    rw [List.findIdx?_eq_none_iff] at e
    have := e (x, 0) (by rw [List.zipIdx_cons]; exact List.mem_cons_self ..)
    unfold badE at this
    simp only [Bool.or_eq_false_iff] at this
    have h4 := this.2.2.2
    simpa using h4
theorem all_right {l : List Ev} (h : (chk l).2 = 0) {b : Nat} (hb : beginV l 0 = b) : seg l b l.length = l := by
  cases l with
  | nil => simp [seg]
  | cons x l =>
    have hk := right_head h
    have h1 := beg_at (l := x :: l) (i := 0) (by simp) hk
    have h0 : cnt (x :: l) 0 = 0 := by have := cnt_le (x :: l) 0; omega
    rw [h0] at h1
    have hb0 : b = 0 := by
      have : ((0 : Nat) : Int) = 0 := rfl
      rw [this] at h1; omega
    subst hb0
    unfold seg
    rw [List.take_length, List.drop_zero]
theorem goes_end (l : List Ev) (stop n : Int) (all : List Ev) (hl : l.length ≤ 300) (ha : all.length ≤ 1000) (hn : n = stop ∨ n = (bg l).length) (hs : n = (bg l).length → (chk l).2 = 0 → all = l) : F_retracelaw31_EventGoes_J2 l stop n all = some true := by
  have j3 : F_retracelaw31_EventGoes_J3 l n all false = some true := by
    unfold F_retracelaw31_EventGoes_J3 F_retracelaw31_EventGoes_J4
    rw [cond_false, right_eq l (by omega), rsteps_eq l (by omega), ev_retracelaw31_live]
    simp only [Option.bind_some]
    by_cases hc : (chk l).2 = 0
    · rw [dct hc]
      simp only [Bool.not_true, cond_false, bne]
      by_cases hK : n = (bg l).length
      · rw [beqt hK, sameE_eq all l (by omega) true (by simp [hs hK hc])]
        rfl
      · rw [beqf hK]; rfl
    · rw [dcf hc]; rfl
  unfold F_retracelaw31_EventGoes_J2
  rw [rsteps_eq l (by omega)]
  simp only [Option.bind_some, bne]
  by_cases hK : n = (bg l).length
  · rw [beqt hK]; exact j3
  · rw [beqf hK, beqt (hn.resolve_right hK)]; exact j3
theorem law_egoes (l : List Ev) (stop : Int) : F_retracelaw31_EventGoes l stop = some true := by
  unfold F_retracelaw31_EventGoes
  rw [ev_retracelaw31_live]
  by_cases h : 300 < (l.length : Int)
  · rw [dct h]
    unfold F_retracelaw31_EventGoes_J1
    rw [ev_retracelaw31_live]; rfl
  rw [dcf h]
  simp only [cond_false, Option.bind_some, Bool.not_true]
  unfold F_retracelaw31_EventGoes_J1 F_event_Each F_event_Each_1 F_event_begins
  simp only [cond_false, Option.bind_some]
  obtain ⟨r, e, q⟩ := begins_goes l stop (by omega)
  rw [e]
  simp only [Option.bind_some]
  rcases r with r | ⟨f, n, ee, a⟩ | ⟨f, n, ee, a⟩
  · exact q.elim
  · obtain ⟨q1, q2, q3⟩ := q
    simp only [Sum.elim_inr, Sum.elim_inl, Option.bind_some]
    by_cases hK : n = (bg l).length
    · obtain ⟨b, hb, rfl⟩ := q2 hK
      have := seg_len l b l.length
      exact goes_end l stop n _ (by omega) (by omega) (.inl q1) (fun _ hc => all_right hc hb)
    · -- told by how many there are, alone
      have j3 : F_retracelaw31_EventGoes_J3 l n a false = some true := by
        unfold F_retracelaw31_EventGoes_J3 F_retracelaw31_EventGoes_J4
        rw [cond_false, right_eq l (by omega), rsteps_eq l (by omega), ev_retracelaw31_live]
        simp only [Option.bind_some, bne]
        rw [beqf hK]
        cases decide ((chk l).2 = 0) <;> rfl
      unfold F_retracelaw31_EventGoes_J2
      rw [rsteps_eq l (by omega)]
      simp only [Option.bind_some, bne]
      rw [beqf hK, beqt q1]; exact j3
  · obtain ⟨_, _, q3, q4⟩ := q
    replace q3 : ee = cnt l l.length := q3
    have hc := cnt_le l l.length
    have hca := cnt_all l
    simp only [Sum.elim_inr]
    by_cases c0 : cnt l l.length = 0
    · replace q4 : f = -1 ∧ n = 0 ∧ a = [] := by rw [if_pos c0] at q4; exact q4
      obtain ⟨rfl, rfl, rfl⟩ := q4
      rw [give_first l stop false _ _ ee (by omega) []]
      simp only [Option.bind_some, Sum.elim_inl, Sum.elim_inr]
      refine goes_end l stop 0 [] (by omega) (by simp) (.inr (by omega)) (fun _ hch => ?_)
      cases l with
      | nil => rfl
      | cons x l =>
        exfalso
        have hk := right_head hch
        have h1 := cnt_succ (l := x :: l) (i := 0) (by simp)
        have h2 : (x :: l)[0].Kind = 1 := hk
        rw [if_pos h2] at h1
        have h3 : bg (x :: l) = [0] ++ bgI l 1 := by
          show bgI (x :: l) 0 = _
          rw [bgI, if_pos hk]; rfl
        rw [hca, h3] at c0
        simp at c0
    · rw [if_neg c0] at q4
      obtain ⟨b, f', hb, hx2, hf, hbf, hfi, hx3, hx4⟩ := q4
      replace hx2 : f = f' := hx2
      replace hx3 : n = (cnt l l.length : Int) - 1 := hx3
      replace hx4 : a = seg l b f' := hx4
      obtain ⟨j, hj⟩ : ∃ j : Nat, cnt l l.length = j + 1 := ⟨cnt l l.length - 1, by omega⟩
      have hj1 : (cnt l l.length : Int) = (j : Int) + 1 := by omega
      have hbe := beg_end l
      rw [← hca, hj1] at hbe
      subst hx2 hx3 hx4 q3
      rw [hj1] at hf ⊢
      rw [show (j : Int) + 1 - 1 = j by omega] at hf ⊢
      have hsl := seg_len l b f'
      rw [give_ok l stop (by omega) false j f' l.length (by omega) hf hbe (by omega) (Nat.le_refl _) (seg l b f') (by omega)]
      simp only [Option.bind_some]
      rw [seg_app l b f' l.length hbf (by omega) (Nat.le_refl _)]
      have hsl2 := seg_len l b l.length
      have fin := goes_end l stop ((j : Int) + 1) (seg l b l.length) (by omega) (by omega) (.inr (by omega)) (fun _ hch => all_right hch hb)
      by_cases hst : (j : Int) + 1 = stop
      · rw [if_pos hst]
        simp only [Sum.elim_inr, Sum.elim_inl, Option.bind_some]
        exact fin
      · rw [if_neg hst]
        simp only [Sum.elim_inr, Sum.elim_inl, Option.bind_some]
        exact fin
end Go.Ab
