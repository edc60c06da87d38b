/- Offers met. -/
import Derived.Test.YtgihgmnmefbjbaaOPOffer
import Derived.Test.YtgihgmnmefbjbaaOPIs
namespace Go.Ab
set_option linter.unusedVariables false
def setV (l : List Int) (k v : Int) : List Int := if 0 ≤ k ∧ k < l.length then l.set k.toNat v else l
theorem setV_len (l : List Int) (k v : Int) : (setV l k v).length = l.length := by unfold setV; split <;> simp
theorem rput_eq (l : List Int) (k v : Int) (hl : l.length ≤ 1000) : F_retraceref25_put l k v = some (setV l k v) := by
  unfold F_retraceref25_put F_retraceref25_put_J2 F_retraceref25_put_J1 setV
  rw [grd_t (by simp; omega)]
  simp only [List.nil_append]
  by_cases h0 : 0 ≤ k
  · by_cases h1 : k < l.length
    · rw [dct h0, dct h1, if_pos ⟨h0, h1⟩, cond_true, cond_true, grd_t ⟨h0, h1⟩]
    · rw [dct h0, dcf h1, if_neg (fun h => h1 h.2)]; rfl
  · rw [dcf h0, if_neg (fun h => h0 h.1)]; rfl
abbrev withV (p : T_api_Proc) (w : List Int) : T_api_Proc := ⟨p.Def, p.At, w, p.Fuel, p.Mode, p.Chan, p.Val, p.Slot, p.Until, p.Since, p.Alts⟩
/-- what is to be done at a place: where one goes on, the slot, the kind -/
def actOf (p : T_api_Proc) (place : Int) : Option (Int × Int × Int) :=
  if place = -1 then (if p.Mode = 1 then some (p.At, p.Slot, 2) else if p.Mode = 2 then some (p.At, p.Slot, 1) else none)
  else if p.Mode = 3 then (lAt p.Alts place).map (fun a => (a.Goto, a.Slot, a.Kind)) else none
def varsOf (p : T_api_Proc) (x : Int × Int × Int) (v : Int) : List Int := if x.2.2 = 1 then setV p.Vars x.2.1 v else p.Vars
theorem varsOf_len (p : T_api_Proc) (x : Int × Int × Int) (v : Int) : (varsOf p x v).length = p.Vars.length := by unfold varsOf; split <;> simp [setV_len]
theorem goesR_withV (c : T_api_Code) (p : T_api_Proc) (w : List Int) (n : Int) : (goesR c (withV p w) n).Vars = w := by unfold goesR; cases endB c n <;> rfl
theorem met_eq (c : T_api_Code) (hi : c.Ins.length ≤ 150) (p : T_api_Proc) (hl : p.Alts.length ≤ 40) (hv : p.Vars.length ≤ 40) (place v : Int) :
    ∃ q, F_offer_Met c p place v = some q ∧ F_retraceref25_Met c p place v = some q ∧
      (match actOf p place with
        | some x => if x.2.2 = 1 ∨ x.2.2 = 2 then ∃ n, F_retraceref20_Settle c x.1 = some n ∧ q = goesR c (withV p (varsOf p x v)) n else q = p
        | none => q = p) := by
  have hclone : F_slices_Clone_int_int p.Vars = some p.Vars := by
    unfold F_slices_Clone_int_int
    rw [grd_t (by simp; omega)]; rfl
  -- the program, when it goes on
  have j1 : ∀ x : Int × Int × Int, ∃ q, F_offer_Met_J1 c p v p.Vars x.1 x.2.1 x.2.2 = some q ∧ (if x.2.2 = 1 ∨ x.2.2 = 2 then (∃ n, F_retraceref20_Settle c x.1 = some n ∧ q = goesR c (withV p (varsOf p x v)) n ∧ F_retraceref22_Goes c (withV p (varsOf p x v)) x.1 = some q) else q = p) := fun x => by
    obtain ⟨a, s, k⟩ := x
    unfold F_offer_Met_J1 F_offer_Met_J3 F_offer_Met_J2
    by_cases k1 : k = 1
    · subst k1
      obtain ⟨n, e1, e2, e3⟩ := goes_eq c hi (withV p (setV p.Vars s v)) (by show (setV p.Vars s v).length ≤ 1000; rw [setV_len]; omega) a
      refine ⟨goesR c (withV p (setV p.Vars s v)) n, ?_, ?_⟩
      · rw [beqt rfl, cond_true]
        unfold setV at e2 ⊢
        by_cases h0 : 0 ≤ s
        · by_cases h1 : s < p.Vars.length
          · rw [dct h0, dct h1, cond_true, cond_true, grd_t ⟨h0, h1⟩]
            rw [if_pos ⟨h0, h1⟩] at e2 ⊢
            rw [e2]; rfl
          · rw [dct h0, dcf h1, cond_true, cond_false]
            rw [if_neg (fun h => h1 h.2)] at e2 ⊢
            rw [e2]; rfl
        · rw [dcf h0, cond_false, cond_false]
          rw [if_neg (fun h => h0 h.1)] at e2 ⊢
          rw [e2]; rfl
      · rw [if_pos (.inl rfl)]
        have : varsOf p (a, s, 1) v = setV p.Vars s v := if_pos rfl
        rw [this]
        exact ⟨n, e1, rfl, e3⟩
    · rw [beqf k1, cond_false]
      have hvo : varsOf p (a, s, k) v = p.Vars := if_neg k1
      rw [hvo]
      by_cases k2 : k = 2
      · subst k2
        obtain ⟨n, e1, e2, e3⟩ := goes_eq c hi (withV p p.Vars) (by show p.Vars.length ≤ 1000; omega) a
        refine ⟨goesR c (withV p p.Vars) n, ?_, ?_⟩
        · rw [beqt rfl, cond_true, e2]; rfl
        · rw [if_pos (.inr rfl)]
          exact ⟨n, e1, rfl, e3⟩
      · rw [beqf k2]
        refine ⟨p, rfl, ?_⟩
        rw [if_neg (show ¬ ((a, s, k).2.2 = 1 ∨ (a, s, k).2.2 = 2) from fun h => h.elim k1 k2)]
  have halt : F_offer_alt p place = some (match (if p.Mode = 3 then lAt p.Alts place else none) with | some a => (a, true) | none => (⟨0, 0, 0, 0, 0⟩, false)) := by
    unfold F_offer_alt F_offer_alt_J1
    by_cases m3 : p.Mode = 3
    · rw [if_pos m3]
      simp only [bne, beqt m3, Bool.not_true, cond_false]
      by_cases h0 : place < 0
      · have : lAt p.Alts place = none := by unfold lAt; rw [if_neg (by omega)]
        rw [dct h0, this]; rfl
      · rw [dcf h0, cond_false]
        by_cases h1 : (p.Alts.length : Int) ≤ place
        · have : lAt p.Alts place = none := by unfold lAt; rw [if_pos (by omega), List.getElem?_eq_none (by omega)]
          rw [dct h1, this]; rfl
        · obtain ⟨a, ea, _⟩ := lAt_ok (l := p.Alts) (i := place) (by omega) (by omega)
          rw [dcf h1, ea]; rfl
    · rw [if_neg m3]
      simp only [bne, beqf m3, Bool.not_false, cond_true]
  have hput : ∀ s, F_retraceref25_put p.Vars s v = some (setV p.Vars s v) := fun s => rput_eq p.Vars s v (by omega)
  unfold F_offer_Met
  rw [hclone, halt]
  simp only [Option.bind_some]
  unfold actOf F_retraceref25_Met
  by_cases hp : place = -1
  · have hl0 : (if p.Mode = 3 then lAt p.Alts place else none) = none := by
      split
      · unfold lAt; rw [if_neg (by omega)]
      · rfl
    rw [hl0, if_pos hp, beqt hp]
    simp only [cond_true, cond_false]
    unfold F_offer_Met_J4 F_offer_Met_J5 F_retraceref25_Met_J1 F_retraceref25_Met_J2
    by_cases m1 : p.Mode = 1
    · obtain ⟨q, e1, e2⟩ := j1 (p.At, p.Slot, 2)
      rw [if_pos (.inr rfl)] at e2
      obtain ⟨n, e3, e4, e5⟩ := e2
      rw [beqt m1, if_pos m1, beqf (show ¬ p.Mode = 2 by omega)]
      refine ⟨q, e1, ?_, ?_⟩
      · simp only [cond_true, cond_false]
        have : F_retraceref22_Goes c (withV p p.Vars) p.At = some q := e5
        rw [this]; rfl
      · simp only
        rw [if_pos (.inr trivial)]
        exact ⟨n, e3, e4⟩
    · rw [beqf m1, if_neg m1]
      by_cases m2 : p.Mode = 2
      · obtain ⟨q, e1, e2⟩ := j1 (p.At, p.Slot, 1)
        rw [if_pos (.inl rfl)] at e2
        obtain ⟨n, e3, e4, e5⟩ := e2
        rw [beqt m2, if_pos m2, beqt hp, hput]
        refine ⟨q, e1, ?_, ?_⟩
        · simp only [cond_true, cond_false, Option.bind_some]
          have : F_retraceref22_Goes c (withV p (setV p.Vars p.Slot v)) p.At = some q := e5
          rw [this]; rfl
        · simp only
          rw [if_pos (.inl trivial)]
          exact ⟨n, e3, e4⟩
      · obtain ⟨q, e1, e2⟩ := j1 (p.At, p.Slot, 0)
        rw [if_neg (by simp)] at e2
        rw [beqf m2, if_neg m2, beqt hp]
        refine ⟨q, e1, ?_, e2⟩
        rw [e2]; rfl
  · rw [if_neg hp, beqf hp]
    unfold F_offer_Met_J4 F_offer_Met_J5
    have hnone : ∀ q, F_offer_Met_J1 c p v p.Vars p.At p.Slot 0 = some q → q = p := fun q e => by
      obtain ⟨q', e1, e2⟩ := j1 (p.At, p.Slot, 0)
      rw [if_neg (by simp)] at e2
      rw [e1] at e; cases e; exact e2
    by_cases m3 : p.Mode = 3
    · rw [if_pos m3, if_pos m3]
      simp only [bne, beqt m3, Bool.not_true, cond_false]
      by_cases hr : 0 ≤ place ∧ place < p.Alts.length
      · obtain ⟨a, ea, _⟩ := lAt_ok hr.1 hr.2
        rw [ea]
        obtain ⟨q, e1, e2⟩ := j1 (a.Goto, a.Slot, a.Kind)
        simp only [cond_true, Option.map_some]
        rw [dcf (show ¬ place < 0 by omega), dcf (show ¬ (p.Alts.length : Int) ≤ place by omega)]
        unfold F_retraceref25_Met_J3 F_retraceref25_Met_J4 F_retraceref25_Met_J5
        rw [ea]
        simp only [cond_false, Option.bind_some]
        refine ⟨q, e1, ?_, ?_⟩
        · by_cases k1 : a.Kind = 1
          · rw [if_pos (.inl k1)] at e2
            obtain ⟨n, e3, e4, e5⟩ := e2
            have hvo : varsOf p (a.Goto, a.Slot, a.Kind) v = setV p.Vars a.Slot v := if_pos k1
            rw [hvo] at e5
            rw [beqt k1, hput, beqf (show ¬ a.Kind = 2 by omega)]
            simp only [cond_true, cond_false, Option.bind_some]
            have : F_retraceref22_Goes c (withV p (setV p.Vars a.Slot v)) a.Goto = some q := e5
            rw [this]; rfl
          · rw [beqf k1]
            have hvo : varsOf p (a.Goto, a.Slot, a.Kind) v = p.Vars := if_neg k1
            by_cases k2 : a.Kind = 2
            · rw [if_pos (.inr k2)] at e2
              obtain ⟨n, e3, e4, e5⟩ := e2
              rw [hvo] at e5
              rw [beqt k2]
              simp only [cond_true, cond_false]
              have : F_retraceref22_Goes c (withV p p.Vars) a.Goto = some q := e5
              rw [this]; rfl
            · rw [if_neg (fun h => h.elim k1 k2)] at e2
              rw [beqf k2, e2]; rfl
        · by_cases k : a.Kind = 1 ∨ a.Kind = 2
          · rw [if_pos k] at e2 ⊢
            obtain ⟨n, e3, e4, e5⟩ := e2
            exact ⟨n, e3, e4⟩
          · rw [if_neg k] at e2 ⊢
            exact e2
      · have hn : lAt p.Alts place = none := by
          cases e : lAt p.Alts place with
          | none => rfl
          | some a => exact absurd (lAt_rng e) hr
        rw [hn]
        obtain ⟨q, e1, _⟩ := j1 (p.At, p.Slot, 0)
        refine ⟨q, ?_, ?_, hnone q e1⟩
        · simp only [cond_false, beqf hp]; exact e1
        · rw [hnone q e1]
          unfold F_retraceref25_Met_J3
          by_cases h0 : place < 0
          · rw [dct h0]; rfl
          · rw [dcf h0, dct (show (p.Alts.length : Int) ≤ place by omega)]; rfl
    · rw [if_neg m3, if_neg m3]
      simp only [bne, beqf m3, Bool.not_false, cond_true, cond_false]
      obtain ⟨q, e1, _⟩ := j1 (p.At, p.Slot, 0)
      rw [beqf hp]
      exact ⟨q, e1, by rw [hnone q e1]; rfl, hnone q e1⟩
theorem met_len {c : T_api_Code} {p q : T_api_Proc} {place v : Int} (hl : p.Alts.length ≤ 40) (hv : p.Vars.length ≤ 40) (h : match actOf p place with
        | some x => if x.2.2 = 1 ∨ x.2.2 = 2 then ∃ n, F_retraceref20_Settle c x.1 = some n ∧ q = goesR c (withV p (varsOf p x v)) n else q = p
        | none => q = p) : q.Vars.length ≤ 40 ∧ q.Alts.length ≤ 40 := by
  have hg : ∀ (w : List Int) (n : Int), (goesR c (withV p w) n).Alts = [] := fun w n => by unfold goesR; cases endB c n <;> rfl
  split at h
  · split at h
    · obtain ⟨n, _, e⟩ := h
      rw [e, goesR_withV, varsOf_len, hg]
      exact ⟨hv, by simp⟩
    · rw [h]; exact ⟨hv, hl⟩
  · rw [h]; exact ⟨hv, hl⟩
theorem law_omeets (c : T_api_Code) (p : T_api_Proc) (a b : Int) (dn : ∀ d ∈ c.Defs, d.Name.size ≤ maxLen) (cn : ∀ d ∈ c.Chans, d.Name.size ≤ maxLen) : F_retracelaw25_OfferMeets c p a b = some true := by
  unfold F_retracelaw25_OfferMeets
  rw [small_v2]
  obtain ⟨s, es, hs⟩ := ok_small c [p] dn cn
  rw [es, ev_retracelaw25_live]
  cases s with
  | false => rfl
  | true =>
  have hp := (hs rfl).each p (List.mem_singleton.mpr rfl)
  obtain ⟨q, e1, e2, e3⟩ := met_eq c (hs rfl).sm.ins p hp.1 hp.2.1 a b
  obtain ⟨l1, l2⟩ := met_len hp.1 hp.2.1 e3
  simp only [Option.bind_some, Bool.not_true, cond_false]
  rw [grd_t (by simp; omega), e1, e2]
  simp only [Option.bind_some]
  rw [same_self q (by omega) (by omega)]
  simp only [Option.bind_some, Bool.not_true, cond_false]
  rw [grd_t (by simp; omega)]
  refine Loop_nat (step := fun s : (Int) => F_retracelaw25_OfferMeets_L1 p s) (fun k => (k : Int)) p.Vars.length (fun k hk => ?_) ?_
  · show F_retracelaw25_OfferMeets_L1 p (k : Int) = _
    unfold F_retracelaw25_OfferMeets_L1
    rw [dct (by simp; omega), List.nil_append, lAt_lt hk]
    simp only [cond_true, Option.bind_some, bne, beq_self_eq_true, Bool.not_true, cond_false]
    rw [w64s (by have := hp.2.1; omega)]
  · show F_retracelaw25_OfferMeets_L1 p (p.Vars.length : Int) = _
    unfold F_retracelaw25_OfferMeets_L1
    rw [dcf (by simp), ev_retracelaw25_live]; rfl
theorem isPB_withV {c : T_api_Code} {p : T_api_Proc} (h : isPB c p = true) (w : List Int) (hw : w.length = p.Vars.length) : isPB c (withV p w) = true := by
  have e : isPB c (withV p w) = isPB c p := by
    unfold isPB shapeB modeB altB
    simp only [hw]
  rw [e]; exact h
theorem isPB_all {c : T_api_Code} {p : T_api_Proc} (h : isPB c p = true) : (p.Mode = 1 ∨ p.Mode = 2 → restsB c p.Def p.At = true) ∧ (p.Mode = 3 → ∀ x ∈ p.Alts, restsB c p.Def x.Goto = true) := by
  unfold isPB at h
  simp only [Bool.and_eq_true] at h
  obtain ⟨_, _, _, _, _, h⟩ := h
  unfold modeB at h
  refine ⟨fun m => ?_, fun m x hx => ?_⟩
  · rw [if_neg (by omega)] at h
    by_cases m1 : p.Mode = 1
    · rw [if_pos m1, Bool.and_eq_true] at h; exact h.1
    · rw [if_neg m1, if_pos (by omega), Bool.and_eq_true] at h; exact h.1
  · rw [if_neg (by omega), if_neg (by omega), if_neg (by omega), if_neg (by omega), if_neg (by omega), if_pos m, Bool.and_eq_true] at h
    have := List.all_eq_true.1 h.1 x hx
    unfold altB at this
    rw [Bool.and_eq_true] at this
    exact this.1
/-- what an offer is -/
theorem of_cases (p : T_api_Proc) (k ch : Int) (hl : p.Alts.length ≤ 40) (r : Int × Bool) (h : F_offer_Of p k ch = some r) :
    (r.2 = false ∧ r.1 = 0) ∨ (r = (-1, true) ∧ (k = 2 ∧ p.Mode = 1 ∨ k = 1 ∧ p.Mode = 2)) ∨ (p.Mode = 3 ∧ r.2 = true ∧ (k = 1 ∨ k = 2) ∧ ∃ a, lAt p.Alts r.1 = some a ∧ a.Kind = k) := by
  obtain ⟨r', e1, e2, e3⟩ := of_eq p k ch hl
  rw [h] at e1
  obtain rfl := Option.some.inj e1
  cases hr : r.2 with
  | false => exact .inl ⟨rfl, e3 hr⟩
  | true =>
  refine .inr ?_
  unfold F_retraceref25_Of F_retraceref25_Of_J1 F_retraceref25_Of_J2 at e2
  rw [refloop_eq _ _ _ hl] at e2
  obtain ⟨r1, r2⟩ := r
  cases hr
  have fin : ∀ z : Nat, (some (if p.Mode = 3 then (match p.Alts.findIdx? (altIs k ch) with | some i => (⟨(i : Int), true⟩ : T_retraceref25_Offer) | none => ⟨0, false⟩) else ⟨0, false⟩) = some (⟨r1, true⟩ : T_retraceref25_Offer)) → (k = 1 ∨ k = 2) →
      p.Mode = 3 ∧ ((r1, true) : Int × Bool).2 = true ∧ (k = 1 ∨ k = 2) ∧ ∃ a, lAt p.Alts ((r1, true) : Int × Bool).1 = some a ∧ a.Kind = k := fun _ e z => by
    by_cases m3 : p.Mode = 3
    · rw [if_pos m3] at e
      cases ei : p.Alts.findIdx? (altIs k ch) with
      | none => rw [ei] at e; cases e
      | some i =>
        rw [ei] at e
        cases e
        rw [List.findIdx?_eq_some_iff_getElem] at ei
        obtain ⟨hi, e5, _⟩ := ei
        refine ⟨m3, rfl, z, p.Alts[i], lAt_lt hi, ?_⟩
        unfold altIs at e5
        simp only [Bool.and_eq_true, beq_iff_eq] at e5
        exact e5.1
    · rw [if_neg m3] at e; cases e
  by_cases k2 : k = 2
  · subst k2
    by_cases m1 : p.Mode = 1
    · by_cases c1 : p.Chan = ch
      · simp [m1, c1] at e2
        exact .inl ⟨by rw [← e2], .inl ⟨rfl, m1⟩⟩
      · simp [m1, beqf c1] at e2
    · simp [beqf m1] at e2
      exact .inr (fin 0 (congrArg some e2) (.inr rfl))
  · by_cases k1 : k = 1
    · subst k1
      by_cases m2 : p.Mode = 2
      · by_cases c1 : p.Chan = ch
        · simp [m2, c1] at e2
          exact .inl ⟨by rw [← e2], .inr ⟨rfl, m2⟩⟩
        · simp [m2, beqf c1] at e2
      · simp [beqf m2] at e2
        exact .inr (fin 0 (congrArg some e2) (.inl rfl))
    · simp [bne, beqf k1, beqf k2] at e2
theorem law_ogone (c : T_api_Code) (p : T_api_Proc) (k ch v : Int) (dn : ∀ d ∈ c.Defs, d.Name.size ≤ maxLen) (cn : ∀ d ∈ c.Chans, d.Name.size ≤ maxLen) : F_retracelaw25_OfferGone c p k ch v = some true := by
  unfold F_retracelaw25_OfferGone
  rw [small_v2]
  obtain ⟨s, es, hs⟩ := ok_small c [p] dn cn
  rw [es, ev_retracelaw25_live]
  cases s with
  | false => rfl
  | true =>
  have hp := (hs rfl).each p (List.mem_singleton.mpr rfl)
  have hsm := (hs rfl).sm
  have his : isPB c p = true := by
    have := hp.2.2
    rw [isP_eq c hsm p hp.1] at this
    exact Option.some.inj this
  obtain ⟨r, e1, _, _⟩ := of_eq p k ch hp.1
  simp only [Option.bind_some, Bool.not_true, cond_false]
  rw [e1]
  simp only [Option.bind_some]
  have hc := of_cases p k ch hp.1 r e1
  obtain ⟨at', ok⟩ := r
  cases ok with
  | false =>
    rcases hc with ⟨_, h0⟩ | ⟨h, _⟩ | ⟨_, h, _⟩
    · replace h0 : at' = 0 := h0
      subst h0
      rfl
    · cases h
    · cases h
  | true =>
  -- what is done there
  have hact : ∃ to slot, actOf p at' = some (to, slot, k) ∧ (k = 1 ∨ k = 2) ∧ restsB c p.Def to = true ∧ (if 0 ≤ at' ∧ at' < p.Alts.length then ∃ a, lAt p.Alts at' = some a ∧ slot = a.Slot else slot = p.Slot) := by
    obtain ⟨q1, q2⟩ := isPB_all his
    rcases hc with ⟨h, _⟩ | ⟨h, hk⟩ | ⟨m3, _, hk, a, ea, ka⟩
    · cases h
    · cases h
      unfold actOf
      rw [if_pos rfl]
      have hno : ¬ ((0 : Int) ≤ -1 ∧ (-1 : Int) < p.Alts.length) := by omega
      rcases hk with ⟨rfl, m⟩ | ⟨rfl, m⟩
      · rw [if_pos m]; exact ⟨_, _, rfl, .inr rfl, q1 (.inl m), by rw [if_neg hno]⟩
      · rw [if_neg (show ¬ p.Mode = 1 by omega), if_pos m]; exact ⟨_, _, rfl, .inl rfl, q1 (.inr m), by rw [if_neg hno]⟩
    · have hr := lAt_rng ea
      replace hr : 0 ≤ at' ∧ at' < p.Alts.length := hr
      replace ea : lAt p.Alts at' = some a := ea
      unfold actOf
      rw [if_neg (by omega), if_pos m3, ea]
      refine ⟨a.Goto, a.Slot, ?_, hk, q2 m3 a (lAt_mem ea), ?_⟩
      · rw [Option.map_some, ka]
      · rw [if_pos hr]; exact ⟨a, rfl, rfl⟩
  obtain ⟨to, slot, ha, hk, hrest, hslot⟩ := hact
  obtain ⟨q, m1, _, m3⟩ := met_eq c hsm.ins p hp.1 hp.2.1 at' v
  rw [ha] at m3
  simp only at m3
  rw [if_pos hk, settle_rest hsm.ins hrest] at m3
  obtain ⟨n, hn, hq⟩ := m3
  obtain rfl := Option.some.inj hn
  have hvl := varsOf_len p (to, slot, k) v
  obtain ⟨g1, g2, g3, g4, g5⟩ : q.Vars = varsOf p (to, slot, k) v ∧ q.Alts = [] ∧ q.Fuel = p.Fuel ∧ q.Def = p.Def ∧ (q.Mode = 0 ∨ q.Mode = 5) := by
    rw [hq]; unfold goesR; cases endB c to
    · exact ⟨rfl, rfl, rfl, rfl, .inl rfl⟩
    · exact ⟨rfl, rfl, rfl, rfl, .inr rfl⟩
  have hisq : isPB c q = true := by
    rw [hq]
    exact isP_goes (isPB_withV his _ hvl) hrest
  obtain ⟨r2, o1, _, _⟩ := of_eq q k ch (by rw [g2]; simp)
  have o2 := of_cases q k ch (by rw [g2]; simp) r2 o1
  have o3 : r2.2 = false := by
    rcases o2 with ⟨h, _⟩ | ⟨_, h⟩ | ⟨h, _⟩
    · exact h
    · omega
    · omega
  simp only [Bool.not_true, cond_false]
  rw [m1]
  simp only [Option.bind_some]
  rw [o1, isP_eq c hsm q (by rw [g2]; simp), hisq]
  simp only [Option.bind_some, Bool.not_true, cond_false, o3, g3, g4, bne, beq_self_eq_true]
  have fin : F_retracelaw25_OfferGone_J3 p k v q slot = some true := by
    unfold F_retracelaw25_OfferGone_J3
    have hlen : q.Vars.length = p.Vars.length := by rw [g1, hvl]
    refine Loop_nat (step := fun s : (Int) => F_retracelaw25_OfferGone_L6 p k v q slot s) (fun k => (k : Int)) q.Vars.length (fun i hi => ?_) ?_
    · show F_retracelaw25_OfferGone_L6 p k v q slot (i : Int) = _
      unfold F_retracelaw25_OfferGone_L6 F_retracelaw25_OfferGone_J5
      rw [dct (by omega), lAt_lt (show i < p.Vars.length by omega)]
      simp only [cond_true, Option.bind_some]
      have j4 : ∀ x : Int, q.Vars[i] = x → F_retracelaw25_OfferGone_J4 q (i : Int) x = some (.inl ((i + 1 : Nat) : Int)) := fun x hx => by
        unfold F_retracelaw25_OfferGone_J4
        rw [lAt_lt hi, hx]
        simp only [Option.bind_some, bne, beq_self_eq_true, Bool.not_true, cond_false]
        rw [w64s (by have := hp.2.1; omega)]
      have hqi : q.Vars[i] = (varsOf p (to, slot, k) v)[i]'(by omega) := by simp only [g1]
      by_cases k1 : k = 1
      · rw [beqt k1, cond_true]
        by_cases es : (i : Int) = slot
        · rw [beqt es, cond_true]
          refine j4 v ?_
          rw [hqi]
          have : varsOf p (to, slot, k) v = p.Vars.set i v := by
            unfold varsOf setV
            rw [if_pos k1, if_pos (by show 0 ≤ slot ∧ slot < _; omega), ← es]; rfl
          simp only [this, List.getElem_set_self]
        · rw [beqf es, cond_false]
          refine j4 _ ?_
          rw [hqi]
          have : varsOf p (to, slot, k) v = setV p.Vars slot v := by unfold varsOf; rw [if_pos k1]
          simp only [this]
          unfold setV
          by_cases hr : 0 ≤ slot ∧ slot < p.Vars.length
          · simp only [if_pos hr]
            rw [List.getElem_set_ne (by omega)]
          · simp only [if_neg hr]
      · rw [beqf k1, cond_false, cond_false]
        refine j4 _ ?_
        rw [hqi]
        have : varsOf p (to, slot, k) v = p.Vars := by unfold varsOf; rw [if_neg k1]
        simp only [this]
    · show F_retracelaw25_OfferGone_L6 p k v q slot (q.Vars.length : Int) = _
      unfold F_retracelaw25_OfferGone_L6
      rw [dcf (by omega), ev_retracelaw25_live]; rfl
  have hj2 : F_retracelaw25_OfferGone_J2 p k v (at', true) q false = some true := by
    unfold F_retracelaw25_OfferGone_J2 F_retracelaw25_OfferGone_J7
    by_cases hr : 0 ≤ at' ∧ at' < p.Alts.length
    · rw [if_pos hr] at hslot
      obtain ⟨a, ea, hsl⟩ := hslot
      rw [dct hr.1, dct hr.2, ea]
      simp only [cond_false, cond_true, Option.bind_some]
      rw [← hsl]; exact fin
    · rw [if_neg hr] at hslot
      rw [← hslot]
      by_cases h0 : 0 ≤ at'
      · rw [dct h0, dcf (fun h => hr ⟨h0, h⟩)]
        exact fin
      · rw [dcf h0]
        exact fin
  rw [hj2]
  rcases g5 with g | g
  · rw [g]; rfl
  · rw [g]; rfl
end Go.Ab
