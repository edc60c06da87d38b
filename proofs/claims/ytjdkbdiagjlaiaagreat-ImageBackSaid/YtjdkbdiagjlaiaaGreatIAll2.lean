/- Parts of the proof, one behind the other. -/
import Derived.Test.YtjdkbdiagjlaiaaGreatIAll1
section
/- Bits turned at any place; ImageBack. -/
namespace Go.Ab
set_option linter.unusedVariables false
set_option maxRecDepth 10000
/-- turned at places ahead of the text, or far behind it: nothing -/
theorem turn_far (s : ByteArray) (p : Int) (m : Nat) (hs : s.size ≤ 100000) (hp0 : -9223372036854775808 ≤ p) (hp1 : p ≤ 9223372036854775807) (hp : p < -31 ∨ 1000000 < p) (hm : m < 4294967296) : F_retraceref02_Turned s p (m : Int) = some s := by
  unfold F_retraceref02_Turned
  rw [grd_t (by omega)]
  have := Loop_nat (step := fun z : (Int × (List Int)) => F_retraceref02_Turned_L3 p (m : Int) z.1 z.2) (fun k => ((k : Int), sB s)) 32 (r := s) (fun k hk => ?_) ?_
  · exact this
  · show F_retraceref02_Turned_L3 p (m : Int) (k : Int) (sB s) = _
    have ei : wu64 (k : Int) = (k : Int) := wu64_of (by omega) (by omega)
    have j : F_retraceref02_Turned_J2 p (k : Int) (sB s) false = some (.inl (((k + 1 : Nat) : Int), sB s)) := by
      unfold F_retraceref02_Turned_J2 F_retraceref02_Turned_J1
      rw [cond_false, w64s (by omega)]
    unfold F_retraceref02_Turned_L3
    rw [dct (by omega), cond_true, ei, grd_t (by omega)]
    have key : cond (decide (0 ≤ (w64 (p + (k : Int))))) (F_retraceref02_Turned_J2 p (k : Int) (sB s) (decide ((w64 (p + (k : Int))) < (w64 (8 * ((sB s).length : Int)))))) (F_retraceref02_Turned_J2 p (k : Int) (sB s) false) = some (.inl (((k + 1 : Nat) : Int), sB s)) := by
      have e8 : w64 (8 * ((sB s).length : Int)) = 8 * (s.size : Int) := by rw [sB_len, w64i (by omega) (by omega)]
      rw [e8]
      have hw : w64 (p + k) = p + k ∨ w64 (p + k) = p + k - 18446744073709551616 := by
        rw [w64, IntKind.wrap_i64]; omega
      rcases hp with hp | hp
      · rw [dcf (by rw [w64i (by omega) (by omega)]; omega), cond_false]; exact j
      · by_cases h : 0 ≤ w64 (p + k)
        · rw [dct h, cond_true, dcf (by rcases hw with q | q <;> rw [q] at h ⊢ <;> omega)]; exact j
        · rw [dcf h, cond_false]; exact j
    rw [key, j]
    cases (bits .and .u32 (Int.fdiv (m : Int) (2 ^ (min (Int.toNat (k : Int)) 32))) 1) == 1 <;> rfl
  · show F_retraceref02_Turned_L3 p (m : Int) ((32 : Nat) : Int) (sB s) = _
    unfold F_retraceref02_Turned_L3
    rw [dcf (by omega), num_sB]; rfl
/-- turned from a place ahead of the text on: as by the mask's upper bits from the text's first bit on -/
theorem turn_neg (l : List Nat) (hl : ∀ x ∈ l, x < 256) (hlen : l.length ≤ 100000) (e m : Nat) (he : e ≤ 31) (hm : m < 4294967296) : ∀ (d i : Nat), i + d = 32 →
    Loop (fun s : (Int × (List Int)) => F_retraceref02_Turned_L3 (-(e : Int)) (m : Int) s.1 s.2) ((i : Int), toI (xorL l (bytesN l.length (m / 2 ^ e % 2 ^ (i - e) * 2 ^ 0)))) = some (strOfNums (toI (xorL l (bytesN l.length (m / 2 ^ e * 2 ^ 0))))) := by
  intro d
  induction d with
  | zero =>
    intro i hi
    have : i = 32 := by omega
    subst this
    have hlt : m / 2 ^ e < 2 ^ (32 - e) := by
      rw [Nat.div_lt_iff_lt_mul (Nat.two_pow_pos _), ← Nat.pow_add, show 32 - e + e = 32 by omega]
      exact hm
    rw [Nat.mod_eq_of_lt hlt]
    refine Loop_inr (step := fun s : (Int × (List Int)) => F_retraceref02_Turned_L3 (-(e : Int)) (m : Int) s.1 s.2) (s := (((32 : Nat) : Int), _)) ?_
    show F_retraceref02_Turned_L3 (-(e : Int)) (m : Int) ((32 : Nat) : Int) _ = _
    unfold F_retraceref02_Turned_L3
    rfl
  | succ d ih =>
    intro i hi
    have hs : F_retraceref02_Turned_L3 (-(e : Int)) (m : Int) (i : Int) (toI (xorL l (bytesN l.length (m / 2 ^ e % 2 ^ (i - e) * 2 ^ 0)))) = some (.inl (((i + 1 : Nat) : Int), toI (xorL l (bytesN l.length (m / 2 ^ e % 2 ^ (i + 1 - e) * 2 ^ 0))))) := by
      unfold F_retraceref02_Turned_L3
      have e1 : decide ((i : Int) < 32) = true := by simp; omega
      have ei : wu64 (i : Int) = (i : Int) := by rw [wu64]; show IntKind.u64.wrap _ = _; simp [IntKind.wrap, IntKind.bits, IntKind.signed]; omega
      have emin : min (Int.toNat (i : Int)) 32 = i := by omega
      have ediv : Int.fdiv (m : Int) (2 ^ i) = ((m / 2 ^ i : Nat) : Int) := by
        rw [Int.fdiv_eq_ediv_of_nonneg _ (Int.le_of_lt (Int.pow_pos (by decide)))]
        have : ((2 : Int) ^ i) = ((2 ^ i : Nat) : Int) := by simp
        rw [this]; rfl
      have hmd : m / 2 ^ i < 4294967296 := Nat.lt_of_le_of_lt (Nat.div_le_self _ _) hm
      have ebit : bits .and .u32 ((m / 2 ^ i : Nat) : Int) 1 = ((m / 2 ^ i % 2 : Nat) : Int) := by
        have := bits_mask .u32 32 (by decide) (fun n h0 h1 => by rw [IntKind.wrap_u32]; omega) 1 (by decide) ((m / 2 ^ i : Nat) : Int) (Int.natCast_nonneg _) (by exact_mod_cast hmd)
        have e : ((2 : Int) ^ 1 - 1) = 1 := by decide
        rw [e] at this
        rw [this]; rfl
      have eat : w64 (-(e : Int) + (i : Int)) = (i : Int) - e := by rw [xr_w64 (by omega) (by omega)]; omega
      have e8 : w64 (8 * ((toI (xorL l (bytesN l.length (m / 2 ^ e % 2 ^ (i - e) * 2 ^ 0)))).length : Int)) = 8 * (l.length : Int) := by
        rw [toI_len, xorL_len (bytesN_len _ _).symm, xr_w64 (by omega) (by omega)]
      have ei1 : w64 ((i : Int) + 1) = ((i + 1 : Nat) : Int) := by rw [xr_w64 (by omega) (by omega)]; simp
      have same : ∀ b : Bool, b = false → xorL l (bytesN l.length (m / 2 ^ e % 2 ^ (i - e) * 2 ^ 0)) = xorL l (bytesN l.length (m / 2 ^ e % 2 ^ (i + 1 - e) * 2 ^ 0)) → F_retraceref02_Turned_J2 (-(e : Int)) (i : Int) (toI (xorL l (bytesN l.length (m / 2 ^ e % 2 ^ (i - e) * 2 ^ 0)))) b = some (.inl (((i + 1 : Nat) : Int), toI (xorL l (bytesN l.length (m / 2 ^ e % 2 ^ (i + 1 - e) * 2 ^ 0))))) := by
        intro b hb he
        subst hb
        unfold F_retraceref02_Turned_J2 F_retraceref02_Turned_J1
        rw [cond_false, ei1, he]
      rw [e1, cond_true, ei]
      unfold grd
      rw [if_pos (by omega), emin, ediv, ebit]
      by_cases hie : i < e
      · have hsm : xorL l (bytesN l.length (m / 2 ^ e % 2 ^ (i - e) * 2 ^ 0)) = xorL l (bytesN l.length (m / 2 ^ e % 2 ^ (i + 1 - e) * 2 ^ 0)) := by
          rw [show i - e = 0 by omega, show i + 1 - e = 0 by omega]
        have hneg : decide ((0 : Int) ≤ w64 (-(e : Int) + (i : Int))) = false := by rw [eat]; exact decide_eq_false (by omega)
        rw [hneg, cond_false, same _ rfl hsm]
        cases (((m / 2 ^ i % 2 : Nat) : Int) == 1) <;> rfl
      · obtain ⟨k, rfl⟩ : ∃ k, i = k + e := ⟨i - e, by omega⟩
        have hk : k + e - e = k := by omega
        have hk1 : k + e + 1 - e = k + 1 := by omega
        have hM : m / 2 ^ e % 2 ^ k < 2 ^ k := Nat.mod_lt _ (Nat.two_pow_pos _)
        have hbd : m / 2 ^ (k + e) = m / 2 ^ e / 2 ^ k := by rw [Nat.add_comm k e, Nat.pow_add, Nat.div_div_eq_div_mul]
        have eat : w64 (-(e : Int) + ((k + e : Nat) : Int)) = ((0 + k : Nat) : Int) := by rw [eat]; omega
        rw [hbd]
        rw [hk, hk1] at same ⊢
        rw [hk] at e8
        by_cases hb : m / 2 ^ e / 2 ^ k % 2 = 1
        · have hmb : m / 2 ^ e % 2 ^ (k + 1) = m / 2 ^ e % 2 ^ k + 2 ^ k := by rw [mod_bit, if_pos hb]
          rw [hb]
          rw [show (((1 : Nat) : Int) == 1) = true from rfl, cond_true, eat, decide_eq_true (show (0 : Int) ≤ ((0 + k : Nat) : Int) by omega), cond_true, e8]
          by_cases hr : (0 + k) / 8 < l.length
          · have hd : decide (((0 + k : Nat) : Int) < 8 * (l.length : Int)) = true := by
              apply decide_eq_true; omega
            rw [hd]
            have hxl : (0 + k) / 8 < (xorL l (bytesN l.length (m / 2 ^ e % 2 ^ k * 2 ^ 0))).length := by rw [xorL_len (bytesN_len _ _).symm]; exact hr
            have hx := List.getElem?_eq_getElem hxl
            have hx256 := xorL_lt hl (bytesN_lt _ _) _ (List.getElem_mem hxl)
            have eq8 : w64 (Int.tdiv ((0 + k : Nat) : Int) 8) = (((0 + k) / 8 : Nat) : Int) := by
              rw [Int.tdiv_eq_ediv_of_nonneg (by omega), xr_w64 (by omega) (by omega)]; omega
            have em8 : Int.tmod ((0 + k : Nat) : Int) 8 = (((0 + k) % 8 : Nat) : Int) := by
              rw [Int.tmod_eq_emod_of_nonneg (by omega)]; omega
            have em8' : wu64 (((0 + k) % 8 : Nat) : Int) = (((0 + k) % 8 : Nat) : Int) := by
              rw [wu64]; simp [IntKind.wrap, IntKind.bits, IntKind.signed]; omega
            have elat : lAt (toI (xorL l (bytesN l.length (m / 2 ^ e % 2 ^ k * 2 ^ 0)))) (((0 + k) / 8 : Nat) : Int) = some (((xorL l (bytesN l.length (m / 2 ^ e % 2 ^ k * 2 ^ 0)))[(0 + k) / 8] : Nat) : Int) := by
              rw [lAt_nat]
              unfold toI
              rw [List.getElem?_map, hx]; rfl
            unfold F_retraceref02_Turned_J2 F_retraceref02_Turned_J1
            rw [cond_true, eat, eq8, em8, elat]
            simp only [Option.bind_some]
            unfold grd
            rw [if_pos (by rw [em8']; omega), if_pos (by rw [toI_len]; omega), ei1, pow8 _ (by omega), Int.toNat_natCast]
            rw [u8x _ _ hx256 (by
              have : 2 ^ ((0 + k) % 8) ≤ 2 ^ 7 := Nat.pow_le_pow_right (by decide) (by omega)
              omega), toI_set, turn_bit hM hr _ hx, hmb]
          · have hd : decide (((0 + k : Nat) : Int) < 8 * (l.length : Int)) = false := by
              apply decide_eq_false; omega
            exact same _ hd (by rw [hmb]; exact turn_out hM (by omega))
        · have hb0 : m / 2 ^ e / 2 ^ k % 2 = 0 := by omega
          have hmb : m / 2 ^ e % 2 ^ (k + 1) = m / 2 ^ e % 2 ^ k := by rw [mod_bit, if_neg hb, Nat.add_zero]
          rw [hb0]
          rw [show (((0 : Nat) : Int) == 1) = false from rfl, cond_false]
          exact same _ rfl (by rw [hmb])
    rw [Loop_inl (step := fun s : (Int × (List Int)) => F_retraceref02_Turned_L3 (-(e : Int)) (m : Int) s.1 s.2) (s := ((i : Int), toI (xorL l (bytesN l.length (m / 2 ^ e % 2 ^ (i - e) * 2 ^ 0))))) hs]
    exact ih (i + 1) (by omega)
/-- bits turned at any place -/
theorem turn_any (s : ByteArray) (p : Int) (m : Nat) (hs : s.size ≤ 100000) (hp0 : -9223372036854775808 ≤ p) (hp1 : p ≤ 9223372036854775807) (hm : m < 4294967296) : ∃ a m' : Nat, m' < 4294967296 ∧ F_retraceref02_Turned s p (m : Int) = some (turnS s a m') := by
  by_cases h1 : p < -31 ∨ 1000000 < p
  · refine ⟨0, 0, by omega, ?_⟩
    rw [turn_far s p m hs hp0 hp1 h1 hm]
    have : turnS s 0 0 = s := by
      apply nB_inj
      rw [nB_turn, Nat.zero_mul, bytesN_zero, ← nB_len s, xorL_zero]
    rw [this]
  · by_cases h2 : 0 ≤ p
    · obtain ⟨a, rfl⟩ := Int.eq_ofNat_of_zero_le h2
      exact ⟨a, m, hm, F_turned s a m hs (by omega) hm⟩
    · obtain ⟨e, rfl⟩ : ∃ e : Nat, p = -(e : Int) := ⟨(-p).toNat, by omega⟩
      refine ⟨0, m / 2 ^ e, Nat.lt_of_le_of_lt (Nat.div_le_self _ _) hm, ?_⟩
      unfold F_retraceref02_Turned
      rw [grd_t (by omega)]
      have h := turn_neg (nB s) (fun x hx => nB_mem hx) (by rw [nB_len]; exact hs) e m (by omega) hm 32 0 rfl
      have e0 : m / 2 ^ e % 2 ^ (0 - e) * 2 ^ 0 = 0 := by simp [Nat.mod_one]
      rw [e0, bytesN_zero, xorL_zero] at h
      rw [sB_nB]
      unfold turnS
      rw [nB_len] at h
      exact h
theorem law_iback (c : Cd) (hi : InC c) (p m : Int) (hp : -9223372036854775808 ≤ p ∧ p ≤ 9223372036854775807) (hm0 : 0 ≤ m) (hm1 : m ≤ 4294967295) : F_retracelaw21_ImageBack c p m = some true := by
  obtain ⟨b, hb, hbf⟩ := large_ok c
  unfold F_retracelaw21_ImageBack
  rw [hb]
  simp only [Option.bind_some]
  cases b with
  | true => rw [cond_true, live21]; rfl
  | false =>
    obtain ⟨l1, l2, l3⟩ := hbf rfl
    have hsm : CSmall c := ⟨by omega, l2, l3, hi.dn, hi.cn⟩
    obtain ⟨a, h1, h2, h3⟩ := chkE_of ⟨hsm, hi⟩
    rw [cond_false]
    by_cases he : chkE c = 0
    · obtain ⟨rfl, hc⟩ := h3 he
      rw [he] at h1
      obtain ⟨p1, _⟩ := put_ok hc (by omega) h1
      have hz := codeS_size hc (by omega)
      have ho := open_seal (codeS c)
      have hsz : (codeS c ++ strOfNums (leN (moreN 0 (codeS c)))).size ≤ 60004 := by rw [ByteArray.size_append, leN_size]; omega
      have hsz4 : 4 ≤ (codeS c ++ strOfNums (leN (moreN 0 (codeS c)))).size := by rw [ByteArray.size_append, leN_size]; omega
      have hg : F_image_Get (codeS c ++ strOfNums (leN (moreN 0 (codeS c)))) = some (c, 0) := get_seal ⟨hsm, hi⟩ hc he
      obtain ⟨m, rfl⟩ := Int.eq_ofNat_of_zero_le hm0
      obtain ⟨a', m', hm', ht⟩ := turn_any (codeS c ++ strOfNums (leN (moreN 0 (codeS c)))) p m (by omega) hp.1 hp.2 (by omega)
      have hot := open_turn (codeS c) a' m' hm'
      have hts := turn_size (codeS c ++ strOfNums (leN (moreN 0 (codeS c)))) a' m'
      rw [p1]
      simp only [Option.bind_some, bne_self_eq_false, cond_false]
      rw [hg]
      simp only [Option.bind_some, bne_self_eq_false, cond_false]
      rw [same_self c (by omega) (by omega) (by omega)]
      simp only [Option.bind_some, Bool.not_true]
      unfold F_retracelaw21_ImageBack_J2
      rw [cond_false, ht]
      simp only [Option.bind_some]
      by_cases hq : turnS (codeS c ++ strOfNums (leN (moreN 0 (codeS c)))) a' m' = codeS c ++ strOfNums (leN (moreN 0 (codeS c)))
      · rw [hq, hg]
        simp only [Option.bind_some, beq_self_eq_true, cond_true]
        rw [live21]; rfl
      · have hne : ¬ (openV (turnS (codeS c ++ strOfNums (leN (moreN 0 (codeS c)))) a' m')).2 = 0 := fun h => hq (hot.1 h)
        generalize turnS (codeS c ++ strOfNums (leN (moreN 0 (codeS c)))) a' m' = y at hne hts hq
        have h4 : openV y = (⟨#[]⟩, 4) := by
          unfold openV at hne ⊢
          rw [if_neg (by omega)] at hne ⊢
          split at hne
          · exact absurd rfl hne
          · rename_i q; rw [if_neg q]
        rw [F_imget y (by omega) (fun h _ => absurd h hne), h4]
        simp only [Option.bind_some]
        rw [eqS, decide_eq_false hq, cond_false, if_pos (by decide)]
        simp only [beq_self_eq_true, cond_true]
        have hn : F_retraceref19_Same noCd ⟨[], [], [], 0, 0⟩ = some true := noCd_same
        rw [hn]
        simp only [Option.bind_some, cond_true]
        rw [live21]; rfl
    · obtain ⟨p1, _⟩ := put_bad he h1
      have hne : (chkE c != 0) = true := by simpa using he
      have hr : F_retraceref20_Right c = some false := by
        unfold F_retraceref20_Right
        rw [h2]
        simp only [Option.bind_some]
        rw [grd_t ⟨rfl, rfl⟩]
        congr 1
        cases hq : ([a, chkE c] == ([0, 0] : List Int)) with
        | false => rfl
        | true =>
          have : [a, chkE c] = [0, 0] := by simpa using hq
          simp only [List.cons.injEq, and_true] at this
          exact absurd this.2 he
      rw [p1]
      simp only [Option.bind_some, hne, cond_true]
      rw [hr]
      simp only [Option.bind_some, Bool.not_false, cond_true]
      rw [live21]; rfl
end Go.Ab
end
