import Derived.Test.YtdcgabaobopjpaaBQZig
namespace Go.Ab
set_option linter.unusedVariables false

theorem or_comm64 (x y : Int) : bits .or .u64 x y = bits .or .u64 y x := by
  show IntKind.u64.wrap ((BitVec.ofInt 64 x ||| BitVec.ofInt 64 y).toNat : Int) = IntKind.u64.wrap ((BitVec.ofInt 64 y ||| BitVec.ofInt 64 x).toNat : Int)
  rw [BitVec.or_comm]
theorem wu64_of {n : Int} (h0 : 0 ≤ n) (h1 : n < 18446744073709551616) : wu64 n = n := by rw [wu64, wrapU64]; omega
theorem w64_of {n : Int} (h0 : -9223372036854775808 ≤ n) (h1 : n ≤ 9223372036854775807) : w64 n = n := by rw [w64, IntKind.wrap_i64]; omega
theorem wu8_of {n : Int} (h0 : 0 ≤ n) (h1 : n < 256) : wu8 n = n := by rw [wu8, IntKind.wrap_u8]; omega
theorem or_join {u x : Int} {i : Nat} (hi : i ≤ 63) (hu : 0 ≤ u) (hu' : u < 2 ^ i) (hx : 0 ≤ x) (hd : x % 2 ^ i = 0) (hx' : x < 18446744073709551616) : bits .or .u64 u x = x + u := by
  rw [or_comm64]
  have hp : (2 : Int) ^ i ≤ 2 ^ 63 := by exact_mod_cast Nat.pow_le_pow_right (by decide) hi
  have hq : (2 : Int) ^ 63 < 2 ^ 64 := by decide
  exact bits_join .u64 64 (by decide) (fun n h0 h1 => wu64_of h0 (by simpa using h1)) i x u hx hd (by simpa using hx') hu hu' (Int.lt_trans (Int.lt_of_lt_of_le hu' hp) hq)
theorem pow7 (k : Nat) : (2 : Int) ^ (7 * k) = 128 ^ k := by rw [Int.pow_mul]; rfl
theorem pow_bound {k : Nat} (h : k ≤ 9) : 0 < (128 : Int) ^ k ∧ (128 : Int) ^ k ≤ 9223372036854775808 := by
  constructor
  · exact Int.pow_pos (by decide)
  · have : (128 : Int) ^ k ≤ 128 ^ 9 := by exact_mod_cast Nat.pow_le_pow_right (by decide) h
    exact Int.le_trans this (by decide)

/-- What reading a number comes to. -/
def getS (l : List Int) (at_ : Int) : Nat → Nat → Int → (Int × Int × Int)
  | 0, _, _ => (0, 0, 3)
  | d + 1, k, u => match l[k]? with
    | none => (0, 0, 2)
    | some c => if (k = 9 ∧ 1 < c) ∨ (c = 0 ∧ 0 < k) then (0, 0, 3) else if c < 128 then (u + c * 128 ^ k, at_ + k + 1, 0) else getS l at_ d (k + 1) (u + (c - 128) * 128 ^ k)

theorem shl7 {c : Int} {k : Nat} (hk : k ≤ 9) (h0 : 0 ≤ c) (h1 : c * 128 ^ k < 18446744073709551616) (h2 : c < 256) : wu64 (wu64 c * 2 ^ (min (Int.toNat (w64 (7 * (k : Int)))) 64)) = c * 128 ^ k := by
  have e : w64 (7 * (k : Int)) = 7 * k := w64_of (by omega) (by omega)
  have e2 : min (Int.toNat (7 * (k : Int))) 64 = 7 * k := by omega
  rw [e, e2, wu64_of h0 (by omega), pow7, wu64_of (Int.mul_nonneg h0 (Int.le_of_lt (pow_bound hk).1)) h1]

theorem or7 {u c : Int} {k : Nat} (hk : k ≤ 9) (hu : 0 ≤ u) (hu' : u < 128 ^ k) (h0 : 0 ≤ c) (h1 : c * 128 ^ k < 18446744073709551616) (h2 : c < 256) :
    bits .or .u64 u (wu64 (wu64 c * 2 ^ (min (Int.toNat (w64 (7 * (k : Int)))) 64))) = u + c * 128 ^ k := by
  rw [shl7 hk h0 h1 h2, or_join (i := 7 * k) (by omega) hu (by rw [pow7]; exact hu') (Int.mul_nonneg h0 (Int.le_of_lt (pow_bound hk).1)) (by rw [pow7]; exact Int.mul_emod_left _ _) h1]
  omega

theorem and127 {c : Int} (h0 : 0 ≤ c) (h1 : c ≤ 255) : bits .and .u8 c 127 = c % 128 := by
  have := bits_mask .u8 8 (by decide) wraps_u8 7 (by decide) c h0 (by omega)
  simpa using this

theorem get_loop (s : ByteArray) (a : Nat) (hs : s.size ≤ 281474976710656) (ha : a ≤ s.size) : ∀ (d k : Nat) (u : Int), k + d = 10 → 0 < d → 0 ≤ u → u < 128 ^ k →
    Loop (fun q : (Int × Int) => F_vint_Get_L5 s (a : Int) q.1 q.2) (u, (k : Int)) = some (getS ((sB s).drop a) a d k u) := by
  have hL : sB (s.extract (Int.toNat (a : Int)) (Int.toNat (s.size : Int))) = (sB s).drop a := by
    rw [sB_cut]
    simp only [Int.toNat_natCast]
    rw [List.take_of_length_le (by rw [sB_len]; omega)]
  intro d
  induction d with
  | zero => intro k u _ h; omega
  | succ d ih =>
    intro k u hk _ hu hu'
    have hk9 : k ≤ 9 := by omega
    obtain ⟨hp, hpb⟩ := pow_bound hk9
    have hlen : ((sB s).drop a).length = s.size - a := by simp [sB_len]
    cases hc : ((sB s).drop a)[k]? with
    | none =>
      have hge : s.size - a ≤ k := by rw [← hlen]; exact List.getElem?_eq_none_iff.1 hc
      simp only [getS, hc]
      refine Loop_inr ?_
      show F_vint_Get_L5 s (a : Int) u (k : Int) = _
      unfold F_vint_Get_L5
      rw [hL, hlen]
      have : decide ((k : Int) < ((s.size - a : Nat) : Int)) = false := by simp; omega
      rw [this]
      rfl
    | some c =>
      have hlt : k < s.size - a := by rw [← hlen]; exact lt_of_getL hc
      have hm : 0 ≤ c ∧ c ≤ 255 := sB_mem (List.mem_of_mem_drop (List.mem_of_getElem? hc))
      have step : F_vint_Get_L5 s (a : Int) u (k : Int) = cond ((k : Int) == 9) (F_vint_Get_J4 (a : Int) u (k : Int) c (decide (1 < c))) (F_vint_Get_J4 (a : Int) u (k : Int) c false) := by
        unfold F_vint_Get_L5
        rw [hL, hlen]
        have : decide ((k : Int) < ((s.size - a : Nat) : Int)) = true := by simp; omega
        rw [this, cond_true, lAt_nat, hc]
        rfl
      have bad : ((k = 9 ∧ 1 < c) ∨ (c = 0 ∧ 0 < k)) → F_vint_Get_L5 s (a : Int) u (k : Int) = some (.inr (0, 0, 3)) := by
        intro h
        rw [step]
        by_cases h1 : k = 9 ∧ 1 < c
        · have e1 : ((k : Int) == 9) = true := by simp; omega
          have e2 : decide (1 < c) = true := by simpa using h1.2
          rw [e1, cond_true, e2]
          rfl
        · have h2 := h.resolve_left h1
          have e3 : decide ((0 : Int) < (k : Int)) = true := by simp; omega
          have e4 : (c == 0) = true := by simpa using h2.1
          have e5 : decide (1 < c) = false := by simp; omega
          unfold F_vint_Get_J4
          rw [e5, e3, e4]
          cases ((k : Int) == 9) <;> rfl
      have good : ¬ ((k = 9 ∧ 1 < c) ∨ (c = 0 ∧ 0 < k)) → F_vint_Get_L5 s (a : Int) u (k : Int) = F_vint_Get_J3 (a : Int) u (k : Int) c false := by
        intro h
        rw [step]
        have j4 : F_vint_Get_J4 (a : Int) u (k : Int) c false = F_vint_Get_J3 (a : Int) u (k : Int) c false := by
          unfold F_vint_Get_J4
          rw [cond_false]
          by_cases h3 : 0 < k
          · have e3 : decide ((0 : Int) < (k : Int)) = true := by simp; omega
            have e4 : (c == 0) = false := by simp; omega
            rw [e3, e4, cond_true]
          · have e3 : decide ((0 : Int) < (k : Int)) = false := by simp; omega
            rw [e3, cond_false]
        by_cases h1 : k = 9
        · have e1 : ((k : Int) == 9) = true := by simp; omega
          have e2 : decide (1 < c) = false := by simp; omega
          rw [e1, cond_true, e2, j4]
        · have e1 : ((k : Int) == 9) = false := by simp; omega
          rw [e1, cond_false, j4]
      by_cases hb : (k = 9 ∧ 1 < c) ∨ (c = 0 ∧ 0 < k)
      · rw [Loop_inr (step := fun q : (Int × Int) => F_vint_Get_L5 s (a : Int) q.1 q.2) (s := (u, (k : Int))) (bad hb)]
        simp only [getS, hc, if_pos hb]
      · have hg := good hb
        have hge0 : (0 : Int) ≤ w64 (7 * (k : Int)) := by rw [w64_of (by omega) (by omega)]; omega
        by_cases h128 : c < 128
        · have hbound : c * 128 ^ k < 18446744073709551616 := by
            by_cases h9 : k = 9
            · have : c ≤ 1 := by omega
              have := Int.mul_le_mul_of_nonneg_right this (Int.le_of_lt hp)
              omega
            · have h8 : (128 : Int) ^ k ≤ 128 ^ 8 := by exact_mod_cast Nat.pow_le_pow_right (by decide) (by omega : k ≤ 8)
              have h8' : (128 : Int) ^ 8 = 72057594037927936 := by decide
              have := Int.mul_le_mul_of_nonneg_right (by omega : c ≤ 127) (Int.le_of_lt hp)
              omega
          have : F_vint_Get_L5 s (a : Int) u (k : Int) = some (.inr (u + c * 128 ^ k, (a : Int) + k + 1, 0)) := by
            rw [hg]
            unfold F_vint_Get_J3
            have e1 : decide (c < 128) = true := by simpa using h128
            rw [cond_false, e1, cond_true, or7 hk9 hu hu' hm.1 hbound (by omega)]
            unfold grd
            rw [if_pos hge0]
            have e2 : w64 ((a : Int) + k) = a + k := w64_of (by omega) (by omega)
            have e3 : w64 ((a : Int) + k + 1) = a + k + 1 := w64_of (by omega) (by omega)
            rw [e2, e3]
            rfl
          rw [Loop_inr (step := fun q : (Int × Int) => F_vint_Get_L5 s (a : Int) q.1 q.2) (s := (u, (k : Int))) this]
          simp only [getS, hc, if_neg hb, if_pos h128]
        · have hk8 : k ≤ 8 := by
            rcases Nat.lt_or_ge k 9 with h | h
            · omega
            · exact absurd (Or.inl ⟨by omega, by omega⟩) hb
          have h8 : (128 : Int) ^ k ≤ 128 ^ 8 := by exact_mod_cast Nat.pow_le_pow_right (by decide) hk8
          have h8' : (128 : Int) ^ 8 = 72057594037927936 := by decide
          have hmul := Int.mul_le_mul_of_nonneg_right (by omega : c - 128 ≤ 127) (Int.le_of_lt hp)
          have hmul0 : 0 ≤ (c - 128) * 128 ^ k := Int.mul_nonneg (by omega) (Int.le_of_lt hp)
          have : F_vint_Get_L5 s (a : Int) u (k : Int) = some (.inl (u + (c - 128) * 128 ^ k, ((k + 1 : Nat) : Int))) := by
            rw [hg]
            unfold F_vint_Get_J3
            have e1 : decide (c < 128) = false := by simpa using h128
            have e0 : bits .and .u8 c 127 = c - 128 := by rw [and127 hm.1 hm.2]; omega
            rw [cond_false, e1, cond_false, e0, or7 hk9 hu hu' (by omega) (by omega) (by omega)]
            unfold grd
            rw [if_pos hge0]
            have e3 : w64 ((k : Int) + 1) = ((k + 1 : Nat) : Int) := by rw [w64_of (by omega) (by omega)]; simp
            rw [e3]
          rw [Loop_inl (step := fun q : (Int × Int) => F_vint_Get_L5 s (a : Int) q.1 q.2) (s := (u, (k : Int))) this]
          have hpk : (128 : Int) ^ (k + 1) = 128 ^ k * 128 := Int.pow_succ _ _
          rw [ih (k + 1) _ (by omega) (by omega) (by omega) (by omega)]
          simp only [getS, hc, if_neg hb, if_neg h128]

theorem F_get (s : ByteArray) (p : Int) (hs : s.size ≤ 281474976710656) : F_vint_Get s p = some (if p < 0 ∨ (s.size : Int) < p then (0, 0, 1) else getS ((sB s).drop p.toNat) p 10 0 0) := by
  unfold F_vint_Get
  by_cases h0 : p < 0
  · have e : decide (p < 0) = true := by simpa using h0
    rw [e, cond_true, if_pos (.inl h0)]
    rfl
  · have e : decide (p < 0) = false := by simpa using h0
    rw [e, cond_false]
    by_cases h1 : (s.size : Int) < p
    · have e1 : decide ((s.size : Int) < p) = true := by simpa using h1
      rw [e1, if_pos (.inr h1)]
      rfl
    · have e1 : decide ((s.size : Int) < p) = false := by simpa using h1
      rw [e1, if_neg (by omega)]
      unfold F_vint_Get_J1
      obtain ⟨a, rfl⟩ := Int.eq_ofNat_of_zero_le (Int.not_lt.1 h0)
      have hx : (s.extract (Int.toNat (a : Int)) (Int.toNat (s.size : Int))).size ≤ 281474976710656 := by
        rw [ByteArray.size_extract]; omega
      unfold grd
      rw [cond_false, if_pos (by omega), if_pos hx]
      have := get_loop s a hs (by omega) 10 0 0 rfl (by decide) (by decide) (by decide)
      simpa using this
end Go.Ab
