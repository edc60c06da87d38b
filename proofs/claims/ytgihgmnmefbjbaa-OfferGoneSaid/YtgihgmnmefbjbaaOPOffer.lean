import Derived.Test.YtgihgmnmefbjbaaOPSmall
namespace Go.Ab
set_option linter.unusedVariables false
def altIs (k ch : Int) (a : T_api_Alt) : Bool := a.Kind == k && a.Chan == ch
theorem index_eq (l : List T_api_Alt) (k ch : Int) (hl : l.length ≤ 40) : F_slices_IndexFunc_retrace_api_Alt_retrace_api_Alt l k ch = some (match l.findIdx? (altIs k ch) with | some i => (i : Int) | none => -1) := by
  unfold F_slices_IndexFunc_retrace_api_Alt_retrace_api_Alt
  refine Loop_find l (by omega) (altIs k ch) (fun i => (i : Int)) (-1) (fun i hi => ?_) ?_
  · unfold F_slices_IndexFunc_retrace_api_Alt_retrace_api_Alt_L1 F_offer_Of_1 F_offer_Of_1_J1
    rw [dct (by omega), cond_true, lAt_lt hi]
    simp only [Option.bind_some]
    unfold altIs
    cases (l[i].Kind == k) <;> cases (l[i].Chan == ch) <;> rfl
  · unfold F_slices_IndexFunc_retrace_api_Alt_retrace_api_Alt_L1
    rw [dcf (by omega)]; rfl
theorem refloop_eq (p : T_api_Proc) (k ch : Int) (hl : p.Alts.length ≤ 40) : Loop (fun s : (Int) => F_retraceref25_Of_L5 p k ch s) 0 = some (if p.Mode = 3 then (match p.Alts.findIdx? (altIs k ch) with | some i => ⟨(i : Int), true⟩ | none => ⟨0, false⟩) else ⟨0, false⟩) := by
  by_cases hm : p.Mode = 3
  · rw [if_pos hm]
    refine Loop_find p.Alts (by omega) (altIs k ch) (fun i => (⟨(i : Int), true⟩ : T_retraceref25_Offer)) ⟨0, false⟩ (fun i hi => ?_) ?_
    · unfold F_retraceref25_Of_L5 F_retraceref25_Of_J3 F_retraceref25_Of_J4
      rw [dct (by omega), cond_true, lAt_lt hi, beqt hm, cond_true]
      simp only [Option.bind_some]
      unfold altIs
      cases (p.Alts[i].Kind == k) <;> cases (p.Alts[i].Chan == ch) <;> rfl
    · unfold F_retraceref25_Of_L5 F_retraceref25_Of_J3
      rw [dcf (by omega)]; rfl
  · rw [if_neg hm]
    refine Loop_nat (fun k => (k : Int)) 0 (fun k hk => by omega) ?_
    show F_retraceref25_Of_L5 p k ch 0 = _
    unfold F_retraceref25_Of_L5 F_retraceref25_Of_J3
    rw [beqf hm]
    cases decide ((0 : Int) < _) <;> rfl
theorem of_eq (p : T_api_Proc) (k ch : Int) (hl : p.Alts.length ≤ 40) : ∃ r : Int × Bool, F_offer_Of p k ch = some r ∧ F_retraceref25_Of p k ch = some ⟨r.1, r.2⟩ ∧ (r.2 = false → r.1 = 0) := by
  unfold F_offer_Of F_retraceref25_Of F_offer_Of_J1 F_retraceref25_Of_J1 F_retraceref25_Of_J2
  rw [index_eq _ _ _ hl, refloop_eq _ _ _ hl]
  have fin : ∃ r : Int × Bool, (cond (p.Mode != 3) (some (0, false)) ((some (match p.Alts.findIdx? (altIs k ch) with | some i => (i : Int) | none => -1)).bind fun y13 => some ((if 0 > y13 then 0 else y13), (decide (0 ≤ y13))))) = some r ∧ some (if p.Mode = 3 then (match p.Alts.findIdx? (altIs k ch) with | some i => (⟨(i : Int), true⟩ : T_retraceref25_Offer) | none => ⟨0, false⟩) else ⟨0, false⟩) = some ⟨r.1, r.2⟩ ∧ (r.2 = false → r.1 = 0) := by
    by_cases h3 : p.Mode = 3
    · rw [show (p.Mode != 3) = false by simp [h3], if_pos h3]
      cases p.Alts.findIdx? (altIs k ch) with
      | none => exact ⟨(0, false), by simp, rfl, fun _ => rfl⟩
      | some i => exact ⟨(i, true), by simp; omega, rfl, fun h => by cases h⟩
    · rw [show (p.Mode != 3) = true by simp [h3], if_neg h3]
      exact ⟨(0, false), rfl, rfl, fun _ => rfl⟩
  obtain ⟨r, h1, h2, h3⟩ := fin
  rw [h1, h2]
  by_cases k2 : k = 2
  · subst k2
    by_cases m1 : p.Mode = 1
    · by_cases c1 : p.Chan = ch
      · exact ⟨(-1, true), by simp [m1, c1], by simp [m1, c1], fun h => by cases h⟩
      · exact ⟨r, by simp [m1, beqf c1], by simp [m1, beqf c1], h3⟩
    · exact ⟨r, by simp [beqf m1], by simp [beqf m1], h3⟩
  · by_cases k1 : k = 1
    · subst k1
      by_cases m2 : p.Mode = 2
      · by_cases c1 : p.Chan = ch
        · exact ⟨(-1, true), by simp [m2, c1], by simp [m2, c1], fun h => by cases h⟩
        · exact ⟨r, by simp [m2, beqf c1], by simp [m2, beqf c1], h3⟩
      · exact ⟨r, by simp [beqf m2], by simp [beqf m2], h3⟩
    · exact ⟨(0, false), by simp [beqf k1, beqf k2], by simp [bne, beqf k1, beqf k2], fun _ => rfl⟩
theorem value_eq (p : T_api_Proc) (k : Int) : ∃ r, F_offer_Value_v2 p k = some r ∧ F_retraceref25_Value p k = some r := by
  unfold F_offer_Value_v2 F_retraceref25_Value F_offer_Value_v2_J1 F_retraceref25_Value_J1 F_offer_Value_v2_J2 F_retraceref25_Value_J2 F_offer_alt F_offer_alt_J1
  by_cases m1 : p.Mode = 1
  · by_cases k1 : k = -1
    · exact ⟨p.Val, by simp [m1, k1], by simp [m1, k1]⟩
    · exact ⟨0, by simp [m1, beqf k1], by simp [m1, beqf k1]⟩
  · by_cases m3 : p.Mode = 3
    · by_cases k0 : k < 0
      · exact ⟨0, by simp [m3, k0], by simp [m3, show ¬ 0 ≤ k by omega]⟩
      · by_cases kl : k < p.Alts.length
        · obtain ⟨y, ey, _⟩ := lAt_ok (l := p.Alts) (i := k) (by omega) kl
          rw [ey]
          by_cases h2 : y.Kind = 2
          · exact ⟨y.Val, by simp [m3, k0, show ¬ (p.Alts.length : Int) ≤ k by omega, h2], by simp [m3, show 0 ≤ k by omega, kl, h2]⟩
          · exact ⟨0, by simp [m3, k0, show ¬ (p.Alts.length : Int) ≤ k by omega, beqf h2], by simp [m3, show 0 ≤ k by omega, kl, beqf h2]⟩
        · exact ⟨0, by simp [m3, k0, show (p.Alts.length : Int) ≤ k by omega], by simp [m3, show 0 ≤ k by omega, kl]⟩
    · exact ⟨0, by simp [bne, beqf m1, beqf m3], by simp [beqf m1, beqf m3]⟩
theorem law_otells (c : T_api_Code) (p : T_api_Proc) (a b d : Int) (dn : ∀ d ∈ c.Defs, d.Name.size ≤ maxLen) (cn : ∀ d ∈ c.Chans, d.Name.size ≤ maxLen) : F_retracelaw25_OfferTells c p a b d = some true := by
  unfold F_retracelaw25_OfferTells
  rw [small_v2]
  obtain ⟨s, es, hs⟩ := ok_small c [p] dn cn
  rw [es, ev_retracelaw25_live]
  cases s with
  | false => rfl
  | true =>
  have hp := (hs rfl).each p (List.mem_singleton.mpr rfl)
  obtain ⟨r, e1, e2, _⟩ := of_eq p a b hp.1
  obtain ⟨v, e3, e4⟩ := value_eq p d
  rw [e1, e2, e3, e4]
  simp [F_retracelaw25_OfferTells_J1]

/-- i is the place found among those of D: the first of the least -/
def Best (off : Nat → Bool) (pl sn : Nat → Int) (D : Nat → Prop) (r : Int × Int) : Prop :=
  (r = (-1, -1) ∧ ∀ k, D k → off k = false) ∨ ∃ i : Nat, r = ((i : Int), pl i) ∧ D i ∧ off i = true ∧ ∀ j, D j → off j = true → (j < i → sn i < sn j) ∧ (i < j → sn i ≤ sn j)
theorem Best.one {off : Nat → Bool} {pl sn : Nat → Int} {D : Nat → Prop} {r r' : Int × Int} (h : Best off pl sn D r) (h' : Best off pl sn D r') : r = r' := by
  rcases h with ⟨e, h⟩ | ⟨i, e, d, o, h⟩ <;> rcases h' with ⟨e', h'⟩ | ⟨i', e', d', o', h'⟩
  · rw [e, e']
  · rw [h i' d'] at o'; cases o'
  · rw [h' i d] at o; cases o
  · have a := h i' d' o'
    have b := h' i d o
    have : i = i' := by
      rcases Nat.lt_trichotomy i i' with q | q | q
      · have := a.2 q; have := b.1 q; omega
      · exact q
      · have := a.1 q; have := b.2 q; omega
    subst this
    rw [e, e']
theorem find_best (l : List T_api_Proc) (k ch : Int) (hl : l.length ≤ 20) (ha : ∀ p ∈ l, p.Alts.length ≤ 40) (off : Nat → Bool) (pl sn : Nat → Int)
    (ho : ∀ i (h : i < l.length), F_offer_Of l[i] k ch = some (pl i, off i)) (hs : ∀ i (h : i < l.length), l[i].Since = sn i) :
    OkP (F_offer_Find l k ch) (Best off pl sn (fun i => i < l.length)) := by
  unfold F_offer_Find
  refine Loop_ok (fun s : Int × Int × Int => 0 ≤ s.2.2 ∧ s.2.2 ≤ l.length ∧ Best off pl sn (fun i => i < s.2.2.toNat) (s.1, s.2.1)) (fun s : Int × Int × Int => (l.length - s.2.2).toNat) (fun s ⟨a, b, g⟩ => ?_) _ ⟨Int.le_refl _, by show (0 : Int) ≤ _; omega, .inl ⟨rfl, fun k hk => by have : k < 0 := hk; omega⟩⟩
  obtain ⟨u, v, i⟩ := s
  replace a : 0 ≤ i := a
  replace b : i ≤ l.length := b
  replace g : Best off pl sn (fun j => j < i.toNat) (u, v) := g
  obtain ⟨n, rfl⟩ := Int.eq_ofNat_of_zero_le a
  show OkP (F_offer_Find_L3 l k ch u v n) _
  unfold F_offer_Find_L3
  refine OkP.condD (fun hv => ?_) (fun hv => OkP.map (OkP.ret ?_))
  · have hn : n < l.length := by omega
    rw [lAt_lt hn]
    simp only [Option.bind_some]
    rw [ho n hn]
    simp only [Option.bind_some]
    have j1 : ∀ x y : Int, Best off pl sn (fun j => j < n + 1) (x, y) → OkP (F_offer_Find_J1 n x y) (Sum.elim (fun s' : Int × Int × Int => (0 ≤ s'.2.2 ∧ s'.2.2 ≤ l.length ∧ Best off pl sn (fun i => i < s'.2.2.toNat) (s'.1, s'.2.1)) ∧ (l.length - s'.2.2).toNat < (l.length - (n : Int)).toNat) (Best off pl sn (fun i => i < l.length))) := fun x y hb => by
      unfold F_offer_Find_J1
      rw [w64s (by omega)]
      refine OkP.ret ⟨⟨?_, ?_, ?_⟩, ?_⟩
      · show (0 : Int) ≤ ((n + 1 : Nat) : Int); omega
      · show ((n + 1 : Nat) : Int) ≤ _; omega
      · exact hb
      · show (l.length - ((n + 1 : Nat) : Int)).toNat < _; omega
    have g' : Best off pl sn (fun j => j < n) (u, v) := g
    refine OkP.condN (fun hf => ?_) (fun ht => ?_)
    · have hf : off n = false := hf
      unfold F_offer_Find_J2
      rw [hf]
      refine j1 u v ?_
      rcases g' with ⟨e, h⟩ | ⟨i, e, d, o, h⟩
      · exact .inl ⟨e, fun j hj => if q : j = n then by rw [q]; exact hf else h j (by have : j < n + 1 := hj; show j < n; omega)⟩
      · exact .inr ⟨i, e, by show i < n + 1; have : i < n := d; omega, o, fun j hj oj => if q : j = n then by rw [q, hf] at oj; cases oj else h j (by have : j < n + 1 := hj; show j < n; omega) oj⟩
    · have ht : off n = true := ht
      rcases g' with ⟨e, h⟩ | ⟨i, e, d, o, h⟩
      · cases e
        rw [dcf (by omega)]
        show OkP (F_offer_Find_J1 n n (pl n)) _
        exact j1 _ _ (.inr ⟨n, rfl, Nat.lt_succ_self n, ht, fun j hj oj => if q : j = n then ⟨by omega, by omega⟩ else by rw [h j (by have : j < n + 1 := hj; show j < n; omega)] at oj; cases oj⟩)
      · obtain ⟨rfl, rfl⟩ := Prod.mk.inj e
        have d' : i < n := d
        rw [dct (by omega), cond_true, lAt_lt (show i < l.length by omega)]
        simp only [Option.bind_some]
        rw [hs i (by omega), hs n hn]
        unfold F_offer_Find_J2
        refine OkP.condD (fun q => j1 _ _ ?_) (fun q => j1 _ _ ?_)
        · exact .inr ⟨i, rfl, by show i < n + 1; omega, o, fun j hj oj => if q2 : j = n then ⟨by omega, fun _ => by rw [q2]; exact q⟩ else h j (by have : j < n + 1 := hj; show j < n; omega) oj⟩
        · refine .inr ⟨n, rfl, Nat.lt_succ_self n, ht, fun j hj oj => ⟨fun hjn => ?_, fun hjn => by have : j < n + 1 := hj; omega⟩⟩
          have := h j hjn oj
          rcases Nat.lt_trichotomy j i with w | w | w
          · have := this.1 w; omega
          · subst w; omega
          · have := this.2 w; omega
  · have : n = l.length := by omega
    subst this
    exact g
theorem rfind_best (l : List T_api_Proc) (k ch : Int) (hl : l.length ≤ 20) (ha : ∀ p ∈ l, p.Alts.length ≤ 40) (off : Nat → Bool) (pl sn : Nat → Int)
    (ho : ∀ i (h : i < l.length), F_retraceref25_Of l[i] k ch = some ⟨pl i, off i⟩) (hs : ∀ i (h : i < l.length), l[i].Since = sn i) :
    OkP (F_retraceref25_Find l k ch) (fun r => ∃ a b, r = [a, b] ∧ Best off pl sn (fun i => i < l.length) (a, b)) := by
  unfold F_retraceref25_Find
  refine OkP.grd (by simp) ?_
  rw [w64i (by omega) (by omega)]
  refine Loop_ok (fun s : Int × List Int => -1 ≤ s.1 ∧ s.1 < l.length ∧ ∃ a b, s.2 = [a, b] ∧ Best off pl sn (fun i => s.1 < i ∧ i < l.length) (a, b)) (fun s : Int × List Int => (s.1 + 1).toNat) (fun s ⟨a, b, x, y, e, g⟩ => ?_) _ ⟨by show -1 ≤ (l.length : Int) - 1; omega, by show (l.length : Int) - 1 < _; omega, -1, -1, rfl, .inl ⟨rfl, fun k hk => by have : (l.length : Int) - 1 < k ∧ k < l.length := hk; omega⟩⟩
  obtain ⟨i, f⟩ := s
  replace a : -1 ≤ i := a
  replace b : i < l.length := b
  replace e : f = [x, y] := e
  replace g : Best off pl sn (fun j => i < j ∧ j < l.length) (x, y) := g
  subst e
  show OkP (F_retraceref25_Find_L3 l k ch i [x, y]) _
  unfold F_retraceref25_Find_L3
  refine OkP.condD (fun hv => ?_) (fun hv => OkP.map (OkP.grd rfl (OkP.grd (by simp) (OkP.grd rfl (OkP.ret ⟨x, y, rfl, ?_⟩)))))
  · obtain ⟨n, rfl⟩ := Int.eq_ofNat_of_zero_le hv
    have hn : n < l.length := by omega
    rw [lAt_lt hn]
    simp only [Option.bind_some]
    rw [ho n hn]
    simp only [Option.bind_some]
    have j1 : ∀ x y : Int, Best off pl sn (fun j => (n : Int) - 1 < j ∧ j < l.length) (x, y) → OkP (F_retraceref25_Find_J1 n [x, y]) (Sum.elim (fun s' : Int × List Int => (-1 ≤ s'.1 ∧ s'.1 < l.length ∧ ∃ a b, s'.2 = [a, b] ∧ Best off pl sn (fun i => s'.1 < i ∧ i < l.length) (a, b)) ∧ (s'.1 + 1).toNat < ((n : Int) + 1).toNat) (fun r => ∃ a b, r = [a, b] ∧ Best off pl sn (fun i => i < l.length) (a, b))) := fun x y hb => by
      unfold F_retraceref25_Find_J1
      rw [w64i (by omega) (by omega)]
      refine OkP.ret ⟨⟨?_, ?_, x, y, rfl, hb⟩, ?_⟩
      · show -1 ≤ (n : Int) - 1; omega
      · show (n : Int) - 1 < _; omega
      · show ((n : Int) - 1 + 1).toNat < _; omega
    have j2 : ∀ q : Bool, (q = true → Best off pl sn (fun j => (n : Int) - 1 < j ∧ j < l.length) ((n : Int), pl n)) → (q = false → Best off pl sn (fun j => (n : Int) - 1 < j ∧ j < l.length) (x, y)) → OkP (F_retraceref25_Find_J2 n [x, y] ⟨pl n, off n⟩ q) (Sum.elim (fun s' : Int × List Int => (-1 ≤ s'.1 ∧ s'.1 < l.length ∧ ∃ a b, s'.2 = [a, b] ∧ Best off pl sn (fun i => s'.1 < i ∧ i < l.length) (a, b)) ∧ (s'.1 + 1).toNat < ((n : Int) + 1).toNat) (fun r => ∃ a b, r = [a, b] ∧ Best off pl sn (fun i => i < l.length) (a, b))) := fun q h1 h2 => by
      unfold F_retraceref25_Find_J2
      exact OkP.condB (fun e => OkP.grd (by simp) (j1 _ _ (h1 e))) (fun e => j1 _ _ (h2 e))
    have aa : aAt 2 [x, y] 0 = some x := rfl
    rw [aa]
    simp only [Option.bind_some]
    refine OkP.condB (fun ht => ?_) (fun hf => j2 _ (fun h => by cases h) (fun _ => ?_))
    · have ht : off n = true := ht
      rcases g with ⟨e, h⟩ | ⟨i, e, d, o, h⟩
      · cases e
        rw [dct (by omega)]
        exact j2 true (fun _ => .inr ⟨n, rfl, ⟨by omega, hn⟩, ht, fun j hj oj => if q : j = n then ⟨by omega, by omega⟩ else by rw [h j ⟨by have := hj.1; omega, hj.2⟩] at oj; cases oj⟩) (fun h => by cases h)
      · obtain ⟨rfl, rfl⟩ := Prod.mk.inj e
        have d1 : (n : Int) < i := d.1
        have d2 : i < l.length := d.2
        rw [dcf (by omega), cond_false, lAt_lt d2]
        simp only [Option.bind_some]
        rw [hs i d2, hs n hn]
        refine j2 _ (fun q => ?_) (fun q => ?_)
        · have q : sn n ≤ sn i := by simpa using q
          refine .inr ⟨n, rfl, ⟨by omega, hn⟩, ht, fun j hj oj => ⟨fun w => by have := hj.1; omega, fun w => ?_⟩⟩
          have := h j ⟨by omega, hj.2⟩ oj
          rcases Nat.lt_trichotomy j i with w | w | w
          · have := this.1 w; omega
          · subst w; exact q
          · have := this.2 w; omega
        · have q : ¬ sn n ≤ sn i := by simpa using q
          refine .inr ⟨i, rfl, ⟨by omega, d2⟩, o, fun j hj oj => if q2 : j = n then ⟨fun _ => by rw [q2]; omega, fun w => by omega⟩ else h j ⟨by have := hj.1; omega, hj.2⟩ oj⟩
    · have hf : off n = false := hf
      rcases g with ⟨e, h⟩ | ⟨i, e, d, o, h⟩
      · exact .inl ⟨e, fun j hj => if q : j = n then by rw [q]; exact hf else h j ⟨by have := hj.1; omega, hj.2⟩⟩
      · exact .inr ⟨i, e, ⟨by have := d.1; omega, d.2⟩, o, fun j hj oj => if q : j = n then by rw [q, hf] at oj; cases oj else h j ⟨by have := hj.1; omega, hj.2⟩ oj⟩
  · have : i = -1 := by omega
    subst this
    rcases g with ⟨e, h⟩ | ⟨i, e, d, o, h⟩
    · exact .inl ⟨e, fun j hj => h j ⟨by omega, hj⟩⟩
    · exact .inr ⟨i, e, d.2, o, fun j hj oj => h j ⟨by omega, hj⟩ oj⟩
theorem law_ofinds (c : T_api_Code) (ps : List T_api_Proc) (a b : Int) (dn : ∀ d ∈ c.Defs, d.Name.size ≤ maxLen) (cn : ∀ d ∈ c.Chans, d.Name.size ≤ maxLen) : F_retracelaw25_OfferFinds c ps a b = some true := by
  unfold F_retracelaw25_OfferFinds
  obtain ⟨s, es, hs⟩ := ok_small c ps dn cn
  rw [es, ev_retracelaw25_live]
  cases s with
  | false => rfl
  | true =>
  have hp := hs rfl
  let R : Nat → Int × Bool := fun i => match ps[i]? with | some p => (F_offer_Of p a b).getD (0, false) | none => (0, false)
  have ho : ∀ i (h : i < ps.length), F_offer_Of ps[i] a b = some ((R i).1, (R i).2) := fun i h => by
    obtain ⟨r, e1, e2, _⟩ := of_eq ps[i] a b (hp.each _ (List.getElem_mem h)).1
    simp only [R, List.getElem?_eq_getElem h, e1, Option.getD_some]
  have hr : ∀ i (h : i < ps.length), F_retraceref25_Of ps[i] a b = some ⟨(R i).1, (R i).2⟩ := fun i h => by
    obtain ⟨r, e1, e2, _⟩ := of_eq ps[i] a b (hp.each _ (List.getElem_mem h)).1
    simp only [R, List.getElem?_eq_getElem h, e1, e2, Option.getD_some]
  let sn : Nat → Int := fun i => match ps[i]? with | some p => p.Since | none => 0
  have hs : ∀ i (h : i < ps.length), ps[i].Since = sn i := fun i h => by simp only [sn, List.getElem?_eq_getElem h]
  obtain ⟨r, e1, b1⟩ := find_best ps a b hp.len (fun p h => (hp.each p h).1) (fun i => (R i).2) (fun i => (R i).1) sn ho hs
  obtain ⟨r', e2, x, y, er, b2⟩ := rfind_best ps a b hp.len (fun p h => (hp.each p h).1) (fun i => (R i).2) (fun i => (R i).1) sn hr hs
  have := b1.one b2
  subst this
  rw [e1, e2, er]
  simp [F_retracelaw25_OfferFinds_J1, grd]
end Go.Ab
