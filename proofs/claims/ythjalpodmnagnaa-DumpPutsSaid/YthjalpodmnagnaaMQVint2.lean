import Derived.Test.YthjalpodmnagnaaMQVint
namespace Go.Ab
set_option linter.unusedVariables false

def gotOf (x : Int × Int × Int) : T_retraceref01_Got := ⟨x.1, x.2.1, x.2.2⟩

theorem getR_loop (s : ByteArray) (a : Nat) (hs : s.size ≤ 281474976710656) (ha : a ≤ s.size) : ∀ (d k : Nat) (u : Int), k + d = 10 → 0 < d → 0 ≤ u → u < 128 ^ k →
    Loop (fun q : (Int × Int × Int) => F_retraceref01_Get_L3 s (a : Int) q.1 q.2.1 q.2.2) (u, 128 ^ k, (k : Int)) = some (gotOf (getS ((sB s).drop a) a d k u)) := by
  intro d
  induction d with
  | zero => intro k u _ h; omega
  | succ d ih =>
    intro k u hk _ hu hu'
    have hk9 : k ≤ 9 := by omega
    obtain ⟨hp, hpb⟩ := pow_bound hk9
    have e10 : decide ((k : Int) < 10) = true := by simp; omega
    have eak : w64 ((a : Int) + k) = a + k := w64_of (by omega) (by omega)
    have hlen : ((sB s).drop a).length = s.size - a := by simp [sB_len]
    cases hc : ((sB s).drop a)[k]? with
    | none =>
      have hge : s.size - a ≤ k := by rw [← hlen]; exact List.getElem?_eq_none_iff.1 hc
      simp only [getS, hc]
      refine Loop_inr ?_
      show F_retraceref01_Get_L3 s (a : Int) u (128 ^ k) (k : Int) = _
      unfold F_retraceref01_Get_L3
      have : decide ((s.size : Int) ≤ (a : Int) + k) = true := by simp; omega
      rw [e10, cond_true, eak, this]
      rfl
    | some c =>
      have hlt : k < s.size - a := by rw [← hlen]; exact lt_of_getL hc
      have hm : 0 ≤ c ∧ c ≤ 255 := sB_mem (List.mem_of_mem_drop (List.mem_of_getElem? hc))
      have hat : sAt s ((a : Int) + k) = some c := by
        rw [sAt_eq, show (a : Int) + k = ((a + k : Nat) : Int) by simp, lAt_nat]
        rw [List.getElem?_drop] at hc
        exact hc
      have step : F_retraceref01_Get_L3 s (a : Int) u (128 ^ k) (k : Int) = F_retraceref01_Get_J2 (a : Int) u (128 ^ k) (k : Int) c (decide ((k = 9 ∧ 1 < c) ∨ (c = 0 ∧ 0 < k))) := by
        unfold F_retraceref01_Get_L3
        have : decide ((s.size : Int) ≤ (a : Int) + k) = false := by simp; omega
        rw [e10, cond_true, eak, this, cond_false, hat]
        simp only [Option.bind_some]
        by_cases h9 : k = 9
        · have e1 : ((k : Int) == 9) = true := by simp; omega
          rw [e1, cond_true]
          by_cases h1 : 1 < c
          · have e2 : decide (1 < c) = true := by simpa using h1
            have e3 : decide ((k = 9 ∧ 1 < c) ∨ (c = 0 ∧ 0 < k)) = true := by simp; omega
            rw [e2, cond_true, e3]
          · have e2 : decide (1 < c) = false := by simpa using h1
            rw [e2, cond_false]
            by_cases h0 : c = 0
            · have e4 : (c == 0) = true := by simpa using h0
              have e5 : decide ((0 : Int) < (k : Int)) = true := by simp; omega
              have e3 : decide ((k = 9 ∧ 1 < c) ∨ (c = 0 ∧ 0 < k)) = true := by simp; omega
              rw [e4, cond_true, e5, e3]
            · have e4 : (c == 0) = false := by simpa using h0
              have e3 : decide ((k = 9 ∧ 1 < c) ∨ (c = 0 ∧ 0 < k)) = false := by simp; omega
              rw [e4, cond_false, e3]
        · have e1 : ((k : Int) == 9) = false := by simp; omega
          rw [e1, cond_false]
          by_cases h0 : c = 0
          · have e4 : (c == 0) = true := by simpa using h0
            have e3 : decide ((k = 9 ∧ 1 < c) ∨ (c = 0 ∧ 0 < k)) = decide ((0 : Int) < (k : Int)) := by
              rw [decide_eq_decide]; omega
            rw [e4, cond_true, e3]
          · have e4 : (c == 0) = false := by simpa using h0
            have e3 : decide ((k = 9 ∧ 1 < c) ∨ (c = 0 ∧ 0 < k)) = false := by simp; omega
            rw [e4, cond_false, e3]
      by_cases hb : (k = 9 ∧ 1 < c) ∨ (c = 0 ∧ 0 < k)
      · have : F_retraceref01_Get_L3 s (a : Int) u (128 ^ k) (k : Int) = some (.inr (gotOf (0, 0, 3))) := by
          rw [step, decide_eq_true hb]; rfl
        rw [Loop_inr (step := fun q : (Int × Int × Int) => F_retraceref01_Get_L3 s (a : Int) q.1 q.2.1 q.2.2) (s := (u, 128 ^ k, (k : Int))) this]
        simp only [getS, hc, if_pos hb]
      · have hg := step
        rw [decide_eq_false hb] at hg
        by_cases h128 : c < 128
        · have hbound : c * 128 ^ k < 9223372036854775809 ∧ 0 ≤ c * 128 ^ k := by
            refine ⟨?_, Int.mul_nonneg hm.1 (Int.le_of_lt hp)⟩
            by_cases h9 : k = 9
            · have : c ≤ 1 := by omega
              have := Int.mul_le_mul_of_nonneg_right this (Int.le_of_lt hp)
              omega
            · have h8 : (128 : Int) ^ k ≤ 128 ^ 8 := by exact_mod_cast Nat.pow_le_pow_right (by decide) (by omega : k ≤ 8)
              have h8' : (128 : Int) ^ 8 = 72057594037927936 := by decide
              have := Int.mul_le_mul_of_nonneg_right (by omega : c ≤ 127) (Int.le_of_lt hp)
              omega
          have : F_retraceref01_Get_L3 s (a : Int) u (128 ^ k) (k : Int) = some (.inr (gotOf (u + c * 128 ^ k, (a : Int) + k + 1, 0))) := by
            rw [hg]
            unfold F_retraceref01_Get_J2
            have e1 : decide (c < 128) = true := by simpa using h128
            have e2 : Int.tmod c 128 = c := by rw [Int.tmod_eq_emod_of_nonneg hm.1]; omega
            have e3 : w64 ((a : Int) + k + 1) = a + k + 1 := w64_of (by omega) (by omega)
            rw [cond_false, e1, cond_true, e2, wu64_of hm.1 (by omega), wu64_of (n := c * 128 ^ k) (by omega) (by omega), wu64_of (n := u + c * 128 ^ k) (by omega) (by omega), eak, e3]
            rfl
          rw [Loop_inr (step := fun q : (Int × Int × Int) => F_retraceref01_Get_L3 s (a : Int) q.1 q.2.1 q.2.2) (s := (u, 128 ^ k, (k : Int))) this]
          simp only [getS, hc, if_neg hb, if_pos h128]
        · have hk8 : k ≤ 8 := by
            rcases Nat.lt_or_ge k 9 with h | h
            · omega
            · exact absurd (Or.inl ⟨by omega, by omega⟩) hb
          have h8 : (128 : Int) ^ k ≤ 128 ^ 8 := by exact_mod_cast Nat.pow_le_pow_right (by decide) hk8
          have h8' : (128 : Int) ^ 8 = 72057594037927936 := by decide
          have hmul := Int.mul_le_mul_of_nonneg_right (by omega : c - 128 ≤ 127) (Int.le_of_lt hp)
          have hmul0 : 0 ≤ (c - 128) * 128 ^ k := Int.mul_nonneg (by omega) (Int.le_of_lt hp)
          have hpk : (128 : Int) ^ (k + 1) = 128 ^ k * 128 := Int.pow_succ _ _
          have : F_retraceref01_Get_L3 s (a : Int) u (128 ^ k) (k : Int) = some (.inl (u + (c - 128) * 128 ^ k, 128 ^ (k + 1), ((k + 1 : Nat) : Int))) := by
            rw [hg]
            unfold F_retraceref01_Get_J2
            have e1 : decide (c < 128) = false := by simpa using h128
            have e2 : Int.tmod c 128 = c - 128 := by rw [Int.tmod_eq_emod_of_nonneg hm.1]; omega
            have e3 : w64 ((k : Int) + 1) = ((k + 1 : Nat) : Int) := by rw [w64_of (by omega) (by omega)]; simp
            rw [cond_false, e1, cond_false, e2, wu64_of (n := c - 128) (by omega) (by omega), wu64_of (n := (c - 128) * 128 ^ k) (by omega) (by omega), wu64_of (n := u + (c - 128) * 128 ^ k) (by omega) (by omega), wu64_of (n := 128 ^ k * 128) (by omega) (by omega), e3, hpk]
          rw [Loop_inl (step := fun q : (Int × Int × Int) => F_retraceref01_Get_L3 s (a : Int) q.1 q.2.1 q.2.2) (s := (u, 128 ^ k, (k : Int))) this]
          rw [ih (k + 1) _ (by omega) (by omega) (by omega) (by omega)]
          simp only [getS, hc, if_neg hb, if_neg h128]

def getV (s : ByteArray) (p : Int) : Int × Int × Int := if p < 0 ∨ (s.size : Int) < p then (0, 0, 1) else getS ((sB s).drop p.toNat) p 10 0 0

theorem F_getR (s : ByteArray) (p : Int) (hs : s.size ≤ 281474976710656) : F_retraceref01_Get s p = some (gotOf (getV s p)) := by
  unfold F_retraceref01_Get getV
  by_cases h0 : p < 0
  · have e : decide (p < 0) = true := by simpa using h0
    rw [e, cond_true, if_pos (.inl h0)]
    rfl
  · have e : decide (p < 0) = false := by simpa using h0
    rw [e, cond_false]
    by_cases h1 : (s.size : Int) < p
    · have e1 : decide ((s.size : Int) < p) = true := by simpa using h1
      rw [e1, if_pos (.inr h1)]
      rfl
    · have e1 : decide ((s.size : Int) < p) = false := by simpa using h1
      rw [e1, if_neg (by omega)]
      unfold F_retraceref01_Get_J1
      obtain ⟨a, rfl⟩ := Int.eq_ofNat_of_zero_le (Int.not_lt.1 h0)
      rw [cond_false]
      have := getR_loop s a hs (by omega) 10 0 0 rfl (by decide) (by decide) (by decide)
      simpa using this

theorem getS_range (l : List Int) (hl : ∀ x ∈ l, 0 ≤ x ∧ x ≤ 255) (at_ : Int) : ∀ (d k : Nat) (u : Int), k + d = 10 → 0 ≤ u → u < 128 ^ k → 0 ≤ (getS l at_ d k u).1 ∧ (getS l at_ d k u).1 ≤ 18446744073709551615 := by
  intro d
  induction d with
  | zero => intro k u _ _ _; exact ⟨Int.le_refl _, by show (0 : Int) ≤ _; decide⟩
  | succ d ih =>
    intro k u hk hu hu'
    have hk9 : k ≤ 9 := by omega
    obtain ⟨hp, hpb⟩ := pow_bound hk9
    unfold getS
    split
    · exact ⟨Int.le_refl _, by show (0 : Int) ≤ _; decide⟩
    · rename_i c hc
      have hm := hl c (List.mem_of_getElem? hc)
      split
      · exact ⟨Int.le_refl _, by show (0 : Int) ≤ _; decide⟩
      · rename_i hb
        split
        · rename_i h128
          have h0 : 0 ≤ c * 128 ^ k := Int.mul_nonneg hm.1 (Int.le_of_lt hp)
          refine ⟨by show 0 ≤ u + c * 128 ^ k; omega, ?_⟩
          show u + c * 128 ^ k ≤ _
          by_cases h9 : k = 9
          · have : c ≤ 1 := by omega
            have := Int.mul_le_mul_of_nonneg_right this (Int.le_of_lt hp)
            omega
          · have h8 : (128 : Int) ^ k ≤ 128 ^ 8 := by exact_mod_cast Nat.pow_le_pow_right (by decide) (by omega : k ≤ 8)
            have h8' : (128 : Int) ^ 8 = 72057594037927936 := by decide
            have := Int.mul_le_mul_of_nonneg_right (by omega : c ≤ 127) (Int.le_of_lt hp)
            omega
        · rename_i h128
          have hmul := Int.mul_le_mul_of_nonneg_right (by omega : c - 128 ≤ 127) (Int.le_of_lt hp)
          have hmul0 : 0 ≤ (c - 128) * 128 ^ k := Int.mul_nonneg (by omega) (Int.le_of_lt hp)
          have hpk : (128 : Int) ^ (k + 1) = 128 ^ k * 128 := Int.pow_succ _ _
          exact ih (k + 1) _ (by omega) (by omega) (by omega)
theorem getV_range (s : ByteArray) (p : Int) : 0 ≤ (getV s p).1 ∧ (getV s p).1 ≤ 18446744073709551615 := by
  unfold getV
  split
  · exact ⟨Int.le_refl _, by show (0 : Int) ≤ _; decide⟩
  · exact getS_range _ (fun x hx => sB_mem (List.mem_of_mem_drop hx)) _ 10 0 0 rfl (by decide) (by decide)
end Go.Ab
