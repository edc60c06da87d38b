/- Parts of the proof, one behind the other. -/
import Derived.Test.YtkkaknlijebppaaGS
import Derived.Test.YtkkaknlijebppaaAbStr
import Derived.Test.YtkkaknlijebppaaAbPlain
import Derived.Test.YtkkaknlijebppaaAbScan
import Derived.Laws.BitsLemmas
import Derived.Laws.BitsAllLaws
section
namespace Go.Ab
set_option linter.unusedVariables false

theorem wrapU64 (n : Int) : IntKind.u64.wrap n = n % 18446744073709551616 := by simp [IntKind.wrap, IntKind.bits, IntKind.signed]

theorem xor_ones64 (k : IntKind) (hk : k = .u64 ∨ k = .i64) (x y : Int) (hy : BitVec.ofInt 64 y = BitVec.allOnes 64) : bits .xor k x y = k.wrap (-1 - x) := by
  have e : bits .xor k x y = k.wrap ((BitVec.ofInt 64 x ^^^ BitVec.ofInt 64 y).toNat : Int) := by rcases hk with rfl | rfl <;> rfl
  rw [e, hy, BitVec.xor_allOnes, BitVec.toNat_not]
  have h1 : (BitVec.ofInt 64 x).toNat = (x % 18446744073709551616).toNat := by rw [BitVec.toNat_ofInt]; rfl
  rw [h1]
  rcases hk with rfl | rfl
  · rw [wrapU64, wrapU64]; omega
  · rw [IntKind.wrap_i64, IntKind.wrap_i64]; omega
theorem xor_zero64 (k : IntKind) (hk : k = .u64 ∨ k = .i64) (x : Int) : bits .xor k x 0 = k.wrap x := by
  have e : bits .xor k x 0 = k.wrap ((BitVec.ofInt 64 x ^^^ BitVec.ofInt 64 0).toNat : Int) := by rcases hk with rfl | rfl <;> rfl
  have h0 : BitVec.ofInt 64 0 = 0#64 := rfl
  rw [e, h0, BitVec.xor_zero]
  have h1 : (BitVec.ofInt 64 x).toNat = (x % 18446744073709551616).toNat := by rw [BitVec.toNat_ofInt]; rfl
  rw [h1]
  rcases hk with rfl | rfl
  · rw [wrapU64, wrapU64]; omega
  · rw [IntKind.wrap_i64, IntKind.wrap_i64]; omega

def zigN (n : Int) : Int := if n < 0 then -2 * n - 1 else 2 * n
def zagN (u : Int) : Int := if u % 2 = 1 then - (u / 2) - 1 else u / 2

theorem F_zag (u : Int) (h0 : 0 ≤ u) (h1 : u ≤ 18446744073709551615) : F_vint_Zag u = some (zagN u) := by
  unfold F_vint_Zag zagN
  have hd : Int.fdiv u 2 = u / 2 := Int.fdiv_eq_ediv_of_nonneg _ (by decide)
  have hm : bits .and .u64 u 1 = u % 2 := by
    have := bits_mask .u64 64 (by decide) (fun n h0 h1 => by rw [wrapU64]; omega) 1 (by decide) u h0 (by omega)
    simpa using this
  rw [hd, hm]
  by_cases h : u % 2 = 1
  · have e : w64 (0 - w64 (u % 2)) = -1 := by rw [h]; decide
    rw [e, xor_ones64 .i64 (.inr rfl) _ _ (by decide), if_pos h]
    simp only [w64, IntKind.wrap_i64]
    congr 1; omega
  · have e : w64 (0 - w64 (u % 2)) = 0 := by rw [show u % 2 = 0 by omega]; decide
    rw [e, xor_zero64 .i64 (.inr rfl), if_neg h]
    simp only [w64, IntKind.wrap_i64]
    congr 1; omega

theorem F_zagR (u : Int) (h0 : 0 ≤ u) (h1 : u ≤ 18446744073709551615) : F_retraceref01_Zag u = some (zagN u) := by
  unfold F_retraceref01_Zag zagN
  rw [Int.tmod_eq_emod_of_nonneg h0, Int.tdiv_eq_ediv_of_nonneg h0]
  by_cases h : u % 2 = 1
  · simp only [h, beq_self_eq_true, cond_true, if_true, w64, wu64, IntKind.wrap_i64, wrapU64]
    congr 1; omega
  · have hb : (u % 2 == 1) = false := by simpa using h
    simp only [h, hb, cond_false, if_false, w64, wu64, IntKind.wrap_i64, wrapU64]
    congr 1; omega

theorem zag_lo (n : Int) (h0 : 0 ≤ n) (h1 : n ≤ 18446744073709551615) : -9223372036854775808 ≤ zagN n := by unfold zagN; split <;> omega
theorem zag_hi (n : Int) (h0 : 0 ≤ n) (h1 : n ≤ 18446744073709551615) : zagN n ≤ 9223372036854775807 := by unfold zagN; split <;> omega
theorem zag_zig (n : Int) : zagN (zigN n) = n := by unfold zagN zigN; split <;> split <;> omega
theorem zig_zag (u : Int) (h0 : 0 ≤ u) : zigN (zagN u) = u := by unfold zagN zigN; split <;> split <;> omega

end Go.Ab
end
section
namespace Go.Ab
set_option linter.unusedVariables false

theorem or_comm64 (x y : Int) : bits .or .u64 x y = bits .or .u64 y x := by
  show IntKind.u64.wrap ((BitVec.ofInt 64 x ||| BitVec.ofInt 64 y).toNat : Int) = IntKind.u64.wrap ((BitVec.ofInt 64 y ||| BitVec.ofInt 64 x).toNat : Int)
  rw [BitVec.or_comm]
theorem wu64_of {n : Int} (h0 : 0 ≤ n) (h1 : n < 18446744073709551616) : wu64 n = n := by rw [wu64, wrapU64]; omega
theorem w64_of {n : Int} (h0 : -9223372036854775808 ≤ n) (h1 : n ≤ 9223372036854775807) : w64 n = n := by rw [w64, IntKind.wrap_i64]; omega
theorem wu8_of {n : Int} (h0 : 0 ≤ n) (h1 : n < 256) : wu8 n = n := by rw [wu8, IntKind.wrap_u8]; omega
theorem or_join {u x : Int} {i : Nat} (hi : i ≤ 63) (hu : 0 ≤ u) (hu' : u < 2 ^ i) (hx : 0 ≤ x) (hd : x % 2 ^ i = 0) (hx' : x < 18446744073709551616) : bits .or .u64 u x = x + u := by
  rw [or_comm64]
  have hp : (2 : Int) ^ i ≤ 2 ^ 63 := by exact_mod_cast Nat.pow_le_pow_right (by decide) hi
  have hq : (2 : Int) ^ 63 < 2 ^ 64 := by decide
  exact bits_join .u64 64 (by decide) (fun n h0 h1 => wu64_of h0 (by simpa using h1)) i x u hx hd (by simpa using hx') hu hu' (Int.lt_trans (Int.lt_of_lt_of_le hu' hp) hq)
theorem pow7 (k : Nat) : (2 : Int) ^ (7 * k) = 128 ^ k := by rw [Int.pow_mul]; rfl
theorem pow_bound {k : Nat} (h : k ≤ 9) : 0 < (128 : Int) ^ k ∧ (128 : Int) ^ k ≤ 9223372036854775808 := by
  constructor
  · exact Int.pow_pos (by decide)
  · have : (128 : Int) ^ k ≤ 128 ^ 9 := by exact_mod_cast Nat.pow_le_pow_right (by decide) h
    exact Int.le_trans this (by decide)

/-- What reading a number comes to. -/
def getS (l : List Int) (at_ : Int) : Nat → Nat → Int → (Int × Int × Int)
  | 0, _, _ => (0, 0, 3)
  | d + 1, k, u => match l[k]? with
    | none => (0, 0, 2)
    | some c => if (k = 9 ∧ 1 < c) ∨ (c = 0 ∧ 0 < k) then (0, 0, 3) else if c < 128 then (u + c * 128 ^ k, at_ + k + 1, 0) else getS l at_ d (k + 1) (u + (c - 128) * 128 ^ k)

theorem shl7 {c : Int} {k : Nat} (hk : k ≤ 9) (h0 : 0 ≤ c) (h1 : c * 128 ^ k < 18446744073709551616) (h2 : c < 256) : wu64 (wu64 c * 2 ^ (min (Int.toNat (w64 (7 * (k : Int)))) 64)) = c * 128 ^ k := by
  have e : w64 (7 * (k : Int)) = 7 * k := w64_of (by omega) (by omega)
  have e2 : min (Int.toNat (7 * (k : Int))) 64 = 7 * k := by omega
  rw [e, e2, wu64_of h0 (by omega), pow7, wu64_of (Int.mul_nonneg h0 (Int.le_of_lt (pow_bound hk).1)) h1]

theorem or7 {u c : Int} {k : Nat} (hk : k ≤ 9) (hu : 0 ≤ u) (hu' : u < 128 ^ k) (h0 : 0 ≤ c) (h1 : c * 128 ^ k < 18446744073709551616) (h2 : c < 256) :
    bits .or .u64 u (wu64 (wu64 c * 2 ^ (min (Int.toNat (w64 (7 * (k : Int)))) 64))) = u + c * 128 ^ k := by
  rw [shl7 hk h0 h1 h2, or_join (i := 7 * k) (by omega) hu (by rw [pow7]; exact hu') (Int.mul_nonneg h0 (Int.le_of_lt (pow_bound hk).1)) (by rw [pow7]; exact Int.mul_emod_left _ _) h1]
  omega

theorem and127 {c : Int} (h0 : 0 ≤ c) (h1 : c ≤ 255) : bits .and .u8 c 127 = c % 128 := by
  have := bits_mask .u8 8 (by decide) wraps_u8 7 (by decide) c h0 (by omega)
  simpa using this

theorem get_loop (s : ByteArray) (a : Nat) (hs : s.size ≤ 281474976710656) (ha : a ≤ s.size) : ∀ (d k : Nat) (u : Int), k + d = 10 → 0 < d → 0 ≤ u → u < 128 ^ k →
    Loop (fun q : (Int × Int) => F_vint_Get_L5 s (a : Int) q.1 q.2) (u, (k : Int)) = some (getS ((sB s).drop a) a d k u) := by
  have hL : sB (s.extract (Int.toNat (a : Int)) (Int.toNat (s.size : Int))) = (sB s).drop a := by
    rw [sB_cut]
    simp only [Int.toNat_natCast]
    rw [List.take_of_length_le (by rw [sB_len]; omega)]
  intro d
  induction d with
  | zero => intro k u _ h; omega
  | succ d ih =>
    intro k u hk _ hu hu'
    have hk9 : k ≤ 9 := by omega
    obtain ⟨hp, hpb⟩ := pow_bound hk9
    have hlen : ((sB s).drop a).length = s.size - a := by simp [sB_len]
    cases hc : ((sB s).drop a)[k]? with
    | none =>
      have hge : s.size - a ≤ k := by rw [← hlen]; exact List.getElem?_eq_none_iff.1 hc
      simp only [getS, hc]
      refine Loop_inr ?_
      show F_vint_Get_L5 s (a : Int) u (k : Int) = _
      unfold F_vint_Get_L5
      rw [hL, hlen]
      have : decide ((k : Int) < ((s.size - a : Nat) : Int)) = false := by simp; omega
      rw [this]
      rfl
    | some c =>
      have hlt : k < s.size - a := by rw [← hlen]; exact lt_of_getL hc
      have hm : 0 ≤ c ∧ c ≤ 255 := sB_mem (List.mem_of_mem_drop (List.mem_of_getElem? hc))
      have step : F_vint_Get_L5 s (a : Int) u (k : Int) = cond ((k : Int) == 9) (F_vint_Get_J4 (a : Int) u (k : Int) c (decide (1 < c))) (F_vint_Get_J4 (a : Int) u (k : Int) c false) := by
        unfold F_vint_Get_L5
        rw [hL, hlen]
        have : decide ((k : Int) < ((s.size - a : Nat) : Int)) = true := by simp; omega
        rw [this, cond_true, lAt_nat, hc]
        rfl
      have bad : ((k = 9 ∧ 1 < c) ∨ (c = 0 ∧ 0 < k)) → F_vint_Get_L5 s (a : Int) u (k : Int) = some (.inr (0, 0, 3)) := by
        intro h
        rw [step]
        by_cases h1 : k = 9 ∧ 1 < c
        · have e1 : ((k : Int) == 9) = true := by simp; omega
          have e2 : decide (1 < c) = true := by simpa using h1.2
          rw [e1, cond_true, e2]
          rfl
        · have h2 := h.resolve_left h1
          have e3 : decide ((0 : Int) < (k : Int)) = true := by simp; omega
          have e4 : (c == 0) = true := by simpa using h2.1
          have e5 : decide (1 < c) = false := by simp; omega
          unfold F_vint_Get_J4
          rw [e5, e3, e4]
          cases ((k : Int) == 9) <;> rfl
      have good : ¬ ((k = 9 ∧ 1 < c) ∨ (c = 0 ∧ 0 < k)) → F_vint_Get_L5 s (a : Int) u (k : Int) = F_vint_Get_J3 (a : Int) u (k : Int) c false := by
        intro h
        rw [step]
        have j4 : F_vint_Get_J4 (a : Int) u (k : Int) c false = F_vint_Get_J3 (a : Int) u (k : Int) c false := by
          unfold F_vint_Get_J4
          rw [cond_false]
          by_cases h3 : 0 < k
          · have e3 : decide ((0 : Int) < (k : Int)) = true := by simp; omega
            have e4 : (c == 0) = false := by simp; omega
            rw [e3, e4, cond_true]
          · have e3 : decide ((0 : Int) < (k : Int)) = false := by simp; omega
            rw [e3, cond_false]
        by_cases h1 : k = 9
        · have e1 : ((k : Int) == 9) = true := by simp; omega
          have e2 : decide (1 < c) = false := by simp; omega
          rw [e1, cond_true, e2, j4]
        · have e1 : ((k : Int) == 9) = false := by simp; omega
          rw [e1, cond_false, j4]
      by_cases hb : (k = 9 ∧ 1 < c) ∨ (c = 0 ∧ 0 < k)
      · rw [Loop_inr (step := fun q : (Int × Int) => F_vint_Get_L5 s (a : Int) q.1 q.2) (s := (u, (k : Int))) (bad hb)]
        simp only [getS, hc, if_pos hb]
      · have hg := good hb
        have hge0 : (0 : Int) ≤ w64 (7 * (k : Int)) := by rw [w64_of (by omega) (by omega)]; omega
        by_cases h128 : c < 128
        · have hbound : c * 128 ^ k < 18446744073709551616 := by
            by_cases h9 : k = 9
            · have : c ≤ 1 := by omega
              have := Int.mul_le_mul_of_nonneg_right this (Int.le_of_lt hp)
              omega
            · have h8 : (128 : Int) ^ k ≤ 128 ^ 8 := by exact_mod_cast Nat.pow_le_pow_right (by decide) (by omega : k ≤ 8)
              have h8' : (128 : Int) ^ 8 = 72057594037927936 := by decide
              have := Int.mul_le_mul_of_nonneg_right (by omega : c ≤ 127) (Int.le_of_lt hp)
              omega
          have : F_vint_Get_L5 s (a : Int) u (k : Int) = some (.inr (u + c * 128 ^ k, (a : Int) + k + 1, 0)) := by
            rw [hg]
            unfold F_vint_Get_J3
            have e1 : decide (c < 128) = true := by simpa using h128
            rw [cond_false, e1, cond_true, or7 hk9 hu hu' hm.1 hbound (by omega)]
            unfold grd
            rw [if_pos hge0]
            have e2 : w64 ((a : Int) + k) = a + k := w64_of (by omega) (by omega)
            have e3 : w64 ((a : Int) + k + 1) = a + k + 1 := w64_of (by omega) (by omega)
            rw [e2, e3]
            rfl
          rw [Loop_inr (step := fun q : (Int × Int) => F_vint_Get_L5 s (a : Int) q.1 q.2) (s := (u, (k : Int))) this]
          simp only [getS, hc, if_neg hb, if_pos h128]
        · have hk8 : k ≤ 8 := by
            rcases Nat.lt_or_ge k 9 with h | h
            · omega
            · exact absurd (Or.inl ⟨by omega, by omega⟩) hb
          have h8 : (128 : Int) ^ k ≤ 128 ^ 8 := by exact_mod_cast Nat.pow_le_pow_right (by decide) hk8
          have h8' : (128 : Int) ^ 8 = 72057594037927936 := by decide
          have hmul := Int.mul_le_mul_of_nonneg_right (by omega : c - 128 ≤ 127) (Int.le_of_lt hp)
          have hmul0 : 0 ≤ (c - 128) * 128 ^ k := Int.mul_nonneg (by omega) (Int.le_of_lt hp)
          have : F_vint_Get_L5 s (a : Int) u (k : Int) = some (.inl (u + (c - 128) * 128 ^ k, ((k + 1 : Nat) : Int))) := by
            rw [hg]
            unfold F_vint_Get_J3
            have e1 : decide (c < 128) = false := by simpa using h128
            have e0 : bits .and .u8 c 127 = c - 128 := by rw [and127 hm.1 hm.2]; omega
            rw [cond_false, e1, cond_false, e0, or7 hk9 hu hu' (by omega) (by omega) (by omega)]
            unfold grd
            rw [if_pos hge0]
            have e3 : w64 ((k : Int) + 1) = ((k + 1 : Nat) : Int) := by rw [w64_of (by omega) (by omega)]; simp
            rw [e3]
          rw [Loop_inl (step := fun q : (Int × Int) => F_vint_Get_L5 s (a : Int) q.1 q.2) (s := (u, (k : Int))) this]
          have hpk : (128 : Int) ^ (k + 1) = 128 ^ k * 128 := Int.pow_succ _ _
          rw [ih (k + 1) _ (by omega) (by omega) (by omega) (by omega)]
          simp only [getS, hc, if_neg hb, if_neg h128]

theorem F_get (s : ByteArray) (p : Int) (hs : s.size ≤ 281474976710656) : F_vint_Get s p = some (if p < 0 ∨ (s.size : Int) < p then (0, 0, 1) else getS ((sB s).drop p.toNat) p 10 0 0) := by
  unfold F_vint_Get
  by_cases h0 : p < 0
  · have e : decide (p < 0) = true := by simpa using h0
    rw [e, cond_true, if_pos (.inl h0)]
    rfl
  · have e : decide (p < 0) = false := by simpa using h0
    rw [e, cond_false]
    by_cases h1 : (s.size : Int) < p
    · have e1 : decide ((s.size : Int) < p) = true := by simpa using h1
      rw [e1, if_pos (.inr h1)]
      rfl
    · have e1 : decide ((s.size : Int) < p) = false := by simpa using h1
      rw [e1, if_neg (by omega)]
      unfold F_vint_Get_J1
      obtain ⟨a, rfl⟩ := Int.eq_ofNat_of_zero_le (Int.not_lt.1 h0)
      have hx : (s.extract (Int.toNat (a : Int)) (Int.toNat (s.size : Int))).size ≤ 281474976710656 := by
        rw [ByteArray.size_extract]; omega
      unfold grd
      rw [cond_false, if_pos (by omega), if_pos hx]
      have := get_loop s a hs (by omega) 10 0 0 rfl (by decide) (by decide) (by decide)
      simpa using this
end Go.Ab
end
section
namespace Go.Ab
set_option linter.unusedVariables false

def gotOf (x : Int × Int × Int) : T_retraceref01_Got := ⟨x.1, x.2.1, x.2.2⟩

theorem getR_loop (s : ByteArray) (a : Nat) (hs : s.size ≤ 281474976710656) (ha : a ≤ s.size) : ∀ (d k : Nat) (u : Int), k + d = 10 → 0 < d → 0 ≤ u → u < 128 ^ k →
    Loop (fun q : (Int × Int × Int) => F_retraceref01_Get_L3 s (a : Int) q.1 q.2.1 q.2.2) (u, 128 ^ k, (k : Int)) = some (gotOf (getS ((sB s).drop a) a d k u)) := by
  intro d
  induction d with
  | zero => intro k u _ h; omega
  | succ d ih =>
    intro k u hk _ hu hu'
    have hk9 : k ≤ 9 := by omega
    obtain ⟨hp, hpb⟩ := pow_bound hk9
    have e10 : decide ((k : Int) < 10) = true := by simp; omega
    have eak : w64 ((a : Int) + k) = a + k := w64_of (by omega) (by omega)
    have hlen : ((sB s).drop a).length = s.size - a := by simp [sB_len]
    cases hc : ((sB s).drop a)[k]? with
    | none =>
      have hge : s.size - a ≤ k := by rw [← hlen]; exact List.getElem?_eq_none_iff.1 hc
      simp only [getS, hc]
      refine Loop_inr ?_
      show F_retraceref01_Get_L3 s (a : Int) u (128 ^ k) (k : Int) = _
      unfold F_retraceref01_Get_L3
      have : decide ((s.size : Int) ≤ (a : Int) + k) = true := by simp; omega
      rw [e10, cond_true, eak, this]
      rfl
    | some c =>
      have hlt : k < s.size - a := by rw [← hlen]; exact lt_of_getL hc
      have hm : 0 ≤ c ∧ c ≤ 255 := sB_mem (List.mem_of_mem_drop (List.mem_of_getElem? hc))
      have hat : sAt s ((a : Int) + k) = some c := by
        rw [sAt_eq, show (a : Int) + k = ((a + k : Nat) : Int) by simp, lAt_nat]
        rw [List.getElem?_drop] at hc
        exact hc
      have step : F_retraceref01_Get_L3 s (a : Int) u (128 ^ k) (k : Int) = F_retraceref01_Get_J2 (a : Int) u (128 ^ k) (k : Int) c (decide ((k = 9 ∧ 1 < c) ∨ (c = 0 ∧ 0 < k))) := by
        unfold F_retraceref01_Get_L3
        have : decide ((s.size : Int) ≤ (a : Int) + k) = false := by simp; omega
        rw [e10, cond_true, eak, this, cond_false, hat]
        simp only [Option.bind_some]
        by_cases h9 : k = 9
        · have e1 : ((k : Int) == 9) = true := by simp; omega
          rw [e1, cond_true]
          by_cases h1 : 1 < c
          · have e2 : decide (1 < c) = true := by simpa using h1
            have e3 : decide ((k = 9 ∧ 1 < c) ∨ (c = 0 ∧ 0 < k)) = true := by simp; omega
            rw [e2, cond_true, e3]
          · have e2 : decide (1 < c) = false := by simpa using h1
            rw [e2, cond_false]
            by_cases h0 : c = 0
            · have e4 : (c == 0) = true := by simpa using h0
              have e5 : decide ((0 : Int) < (k : Int)) = true := by simp; omega
              have e3 : decide ((k = 9 ∧ 1 < c) ∨ (c = 0 ∧ 0 < k)) = true := by simp; omega
              rw [e4, cond_true, e5, e3]
            · have e4 : (c == 0) = false := by simpa using h0
              have e3 : decide ((k = 9 ∧ 1 < c) ∨ (c = 0 ∧ 0 < k)) = false := by simp; omega
              rw [e4, cond_false, e3]
        · have e1 : ((k : Int) == 9) = false := by simp; omega
          rw [e1, cond_false]
          by_cases h0 : c = 0
          · have e4 : (c == 0) = true := by simpa using h0
            have e3 : decide ((k = 9 ∧ 1 < c) ∨ (c = 0 ∧ 0 < k)) = decide ((0 : Int) < (k : Int)) := by
              rw [decide_eq_decide]; omega
            rw [e4, cond_true, e3]
          · have e4 : (c == 0) = false := by simpa using h0
            have e3 : decide ((k = 9 ∧ 1 < c) ∨ (c = 0 ∧ 0 < k)) = false := by simp; omega
            rw [e4, cond_false, e3]
      by_cases hb : (k = 9 ∧ 1 < c) ∨ (c = 0 ∧ 0 < k)
      · have : F_retraceref01_Get_L3 s (a : Int) u (128 ^ k) (k : Int) = some (.inr (gotOf (0, 0, 3))) := by
          rw [step, decide_eq_true hb]; rfl
        rw [Loop_inr (step := fun q : (Int × Int × Int) => F_retraceref01_Get_L3 s (a : Int) q.1 q.2.1 q.2.2) (s := (u, 128 ^ k, (k : Int))) this]
        simp only [getS, hc, if_pos hb]
      · have hg := step
        rw [decide_eq_false hb] at hg
        by_cases h128 : c < 128
        · have hbound : c * 128 ^ k < 9223372036854775809 ∧ 0 ≤ c * 128 ^ k := by
            refine ⟨?_, Int.mul_nonneg hm.1 (Int.le_of_lt hp)⟩
            by_cases h9 : k = 9
            · have : c ≤ 1 := by omega
              have := Int.mul_le_mul_of_nonneg_right this (Int.le_of_lt hp)
              omega
            · have h8 : (128 : Int) ^ k ≤ 128 ^ 8 := by exact_mod_cast Nat.pow_le_pow_right (by decide) (by omega : k ≤ 8)
              have h8' : (128 : Int) ^ 8 = 72057594037927936 := by decide
              have := Int.mul_le_mul_of_nonneg_right (by omega : c ≤ 127) (Int.le_of_lt hp)
              omega
          have : F_retraceref01_Get_L3 s (a : Int) u (128 ^ k) (k : Int) = some (.inr (gotOf (u + c * 128 ^ k, (a : Int) + k + 1, 0))) := by
            rw [hg]
            unfold F_retraceref01_Get_J2
            have e1 : decide (c < 128) = true := by simpa using h128
            have e2 : Int.tmod c 128 = c := by rw [Int.tmod_eq_emod_of_nonneg hm.1]; omega
            have e3 : w64 ((a : Int) + k + 1) = a + k + 1 := w64_of (by omega) (by omega)
            rw [cond_false, e1, cond_true, e2, wu64_of hm.1 (by omega), wu64_of (n := c * 128 ^ k) (by omega) (by omega), wu64_of (n := u + c * 128 ^ k) (by omega) (by omega), eak, e3]
            rfl
          rw [Loop_inr (step := fun q : (Int × Int × Int) => F_retraceref01_Get_L3 s (a : Int) q.1 q.2.1 q.2.2) (s := (u, 128 ^ k, (k : Int))) this]
          simp only [getS, hc, if_neg hb, if_pos h128]
        · have hk8 : k ≤ 8 := by
            rcases Nat.lt_or_ge k 9 with h | h
            · omega
            · exact absurd (Or.inl ⟨by omega, by omega⟩) hb
          have h8 : (128 : Int) ^ k ≤ 128 ^ 8 := by exact_mod_cast Nat.pow_le_pow_right (by decide) hk8
          have h8' : (128 : Int) ^ 8 = 72057594037927936 := by decide
          have hmul := Int.mul_le_mul_of_nonneg_right (by omega : c - 128 ≤ 127) (Int.le_of_lt hp)
          have hmul0 : 0 ≤ (c - 128) * 128 ^ k := Int.mul_nonneg (by omega) (Int.le_of_lt hp)
          have hpk : (128 : Int) ^ (k + 1) = 128 ^ k * 128 := Int.pow_succ _ _
          have : F_retraceref01_Get_L3 s (a : Int) u (128 ^ k) (k : Int) = some (.inl (u + (c - 128) * 128 ^ k, 128 ^ (k + 1), ((k + 1 : Nat) : Int))) := by
            rw [hg]
            unfold F_retraceref01_Get_J2
            have e1 : decide (c < 128) = false := by simpa using h128
            have e2 : Int.tmod c 128 = c - 128 := by rw [Int.tmod_eq_emod_of_nonneg hm.1]; omega
            have e3 : w64 ((k : Int) + 1) = ((k + 1 : Nat) : Int) := by rw [w64_of (by omega) (by omega)]; simp
            rw [cond_false, e1, cond_false, e2, wu64_of (n := c - 128) (by omega) (by omega), wu64_of (n := (c - 128) * 128 ^ k) (by omega) (by omega), wu64_of (n := u + (c - 128) * 128 ^ k) (by omega) (by omega), wu64_of (n := 128 ^ k * 128) (by omega) (by omega), e3, hpk]
          rw [Loop_inl (step := fun q : (Int × Int × Int) => F_retraceref01_Get_L3 s (a : Int) q.1 q.2.1 q.2.2) (s := (u, 128 ^ k, (k : Int))) this]
          rw [ih (k + 1) _ (by omega) (by omega) (by omega) (by omega)]
          simp only [getS, hc, if_neg hb, if_neg h128]

def getV (s : ByteArray) (p : Int) : Int × Int × Int := if p < 0 ∨ (s.size : Int) < p then (0, 0, 1) else getS ((sB s).drop p.toNat) p 10 0 0

theorem F_getR (s : ByteArray) (p : Int) (hs : s.size ≤ 281474976710656) : F_retraceref01_Get s p = some (gotOf (getV s p)) := by
  unfold F_retraceref01_Get getV
  by_cases h0 : p < 0
  · have e : decide (p < 0) = true := by simpa using h0
    rw [e, cond_true, if_pos (.inl h0)]
    rfl
  · have e : decide (p < 0) = false := by simpa using h0
    rw [e, cond_false]
    by_cases h1 : (s.size : Int) < p
    · have e1 : decide ((s.size : Int) < p) = true := by simpa using h1
      rw [e1, if_pos (.inr h1)]
      rfl
    · have e1 : decide ((s.size : Int) < p) = false := by simpa using h1
      rw [e1, if_neg (by omega)]
      unfold F_retraceref01_Get_J1
      obtain ⟨a, rfl⟩ := Int.eq_ofNat_of_zero_le (Int.not_lt.1 h0)
      rw [cond_false]
      have := getR_loop s a hs (by omega) 10 0 0 rfl (by decide) (by decide) (by decide)
      simpa using this

theorem getS_range (l : List Int) (hl : ∀ x ∈ l, 0 ≤ x ∧ x ≤ 255) (at_ : Int) : ∀ (d k : Nat) (u : Int), k + d = 10 → 0 ≤ u → u < 128 ^ k → 0 ≤ (getS l at_ d k u).1 ∧ (getS l at_ d k u).1 ≤ 18446744073709551615 := by
  intro d
  induction d with
  | zero => intro k u _ _ _; exact ⟨Int.le_refl _, by show (0 : Int) ≤ _; decide⟩
  | succ d ih =>
    intro k u hk hu hu'
    have hk9 : k ≤ 9 := by omega
    obtain ⟨hp, hpb⟩ := pow_bound hk9
    unfold getS
    split
    · exact ⟨Int.le_refl _, by show (0 : Int) ≤ _; decide⟩
    · rename_i c hc
      have hm := hl c (List.mem_of_getElem? hc)
      split
      · exact ⟨Int.le_refl _, by show (0 : Int) ≤ _; decide⟩
      · rename_i hb
        split
        · rename_i h128
          have h0 : 0 ≤ c * 128 ^ k := Int.mul_nonneg hm.1 (Int.le_of_lt hp)
          refine ⟨by show 0 ≤ u + c * 128 ^ k; omega, ?_⟩
          show u + c * 128 ^ k ≤ _
          by_cases h9 : k = 9
          · have : c ≤ 1 := by omega
            have := Int.mul_le_mul_of_nonneg_right this (Int.le_of_lt hp)
            omega
          · have h8 : (128 : Int) ^ k ≤ 128 ^ 8 := by exact_mod_cast Nat.pow_le_pow_right (by decide) (by omega : k ≤ 8)
            have h8' : (128 : Int) ^ 8 = 72057594037927936 := by decide
            have := Int.mul_le_mul_of_nonneg_right (by omega : c ≤ 127) (Int.le_of_lt hp)
            omega
        · rename_i h128
          have hmul := Int.mul_le_mul_of_nonneg_right (by omega : c - 128 ≤ 127) (Int.le_of_lt hp)
          have hmul0 : 0 ≤ (c - 128) * 128 ^ k := Int.mul_nonneg (by omega) (Int.le_of_lt hp)
          have hpk : (128 : Int) ^ (k + 1) = 128 ^ k * 128 := Int.pow_succ _ _
          exact ih (k + 1) _ (by omega) (by omega) (by omega)
theorem getV_range (s : ByteArray) (p : Int) : 0 ≤ (getV s p).1 ∧ (getV s p).1 ≤ 18446744073709551615 := by
  unfold getV
  split
  · exact ⟨Int.le_refl _, by show (0 : Int) ≤ _; decide⟩
  · exact getS_range _ (fun x hx => sB_mem (List.mem_of_mem_drop hx)) _ 10 0 0 rfl (by decide) (by decide)
end Go.Ab
end
section
namespace Go.Ab
set_option linter.unusedVariables false

def putS : Nat → Int → List Int
  | 0, u => [u]
  | d + 1, u => if u < 128 then [u] else (u % 128 + 128) :: putS d (u / 128)

theorem putS_mem : ∀ (d : Nat) (u : Int), 0 ≤ u → u < 128 ^ (d + 1) → ∀ x ∈ putS d u, 0 ≤ x ∧ x ≤ 255
  | 0, u, h0, h1, x, hx => by simp [putS] at hx; subst hx; omega
  | d + 1, u, h0, h1, x, hx => by
    unfold putS at hx
    split at hx
    · simp at hx; subst hx; omega
    · rcases List.mem_cons.1 hx with rfl | hx
      · omega
      · have hp : (128 : Int) ^ (d + 1 + 1) = 128 ^ (d + 1) * 128 := Int.pow_succ _ _
        exact putS_mem d (u / 128) (by omega) (by omega) x hx
theorem putS_len : ∀ (d : Nat) (u : Int), (putS d u).length ≤ d + 1 ∧ 0 < (putS d u).length
  | 0, u => by simp [putS]
  | d + 1, u => by
    unfold putS
    split
    · simp
    · have := putS_len d (u / 128)
      simp; omega
theorem putS_more : ∀ (d : Nat) (u : Int), 0 ≤ u → u < 128 ^ (d + 1) → putS (d + 1) u = putS d u
  | 0, u, h0, h1 => by unfold putS; rw [if_pos (by omega)]
  | d + 1, u, h0, h1 => by
    have hp : (128 : Int) ^ (d + 1 + 1) = 128 ^ (d + 1) * 128 := Int.pow_succ _ _
    rw [putS]
    conv => rhs; rw [putS]
    split
    · rfl
    · rw [putS_more d (u / 128) (by omega) (by omega)]

def numL (u : Int) : List Int := putS 9 u
theorem numL_small {u : Int} (h : u < 128) : numL u = [u] := by unfold numL putS; rw [if_pos h]
theorem numL_big {u : Int} (h : ¬ u < 128) (h1 : u ≤ 18446744073709551615) : numL u = (u % 128 + 128) :: numL (u / 128) := by
  unfold numL
  have e : (128 : Int) ^ (8 + 1) = 9223372036854775808 := by decide
  rw [show putS 9 (u / 128) = putS 8 (u / 128) from putS_more 8 (u / 128) (by omega) (by omega)]
  show putS (8 + 1) u = _
  rw [putS, if_neg h]
theorem numL_mem {u : Int} (h0 : 0 ≤ u) (h1 : u ≤ 18446744073709551615) : ∀ x ∈ numL u, 0 ≤ x ∧ x ≤ 255 := by
  have e : (128 : Int) ^ (9 + 1) = 1180591620717411303424 := by decide
  exact putS_mem 9 u h0 (by omega)
theorem numL_len (u : Int) : (numL u).length ≤ 10 ∧ 0 < (numL u).length := putS_len 9 u

theorem num_det : ∀ (m : Nat) (u : Int) (r : ByteArray), 0 ≤ u → u ≤ 18446744073709551615 → F_retraceref01_Num_N m u = some r → r = strOfNums (numL u)
  | 0, u, r, _, _, h => by simp [F_retraceref01_Num_N] at h
  | m + 1, u, r, h0, h1, h => by
    have h : F_retraceref01_Num_B (F_retraceref01_Num_N m) u = some r := h
    unfold F_retraceref01_Num_B at h
    by_cases hu : u < 128
    · rw [decide_eq_true hu, cond_true, wu8_of h0 (by omega)] at h
      rw [numL_small hu]; exact (some_eq h).symm
    · rw [decide_eq_false hu, cond_false] at h
      have e1 : wu64 (Int.tdiv u 128) = u / 128 := by rw [Int.tdiv_eq_ediv_of_nonneg h0]; exact wu64_of (by omega) (by omega)
      have e2 : wu8 (wu8 (Int.tmod u 128) + 128) = u % 128 + 128 := by
        rw [Int.tmod_eq_emod_of_nonneg h0, wu8_of (n := u % 128) (by omega) (by omega)]; exact wu8_of (by omega) (by omega)
      rw [e1, e2] at h
      obtain ⟨y, hy, h⟩ := bind_some h
      obtain ⟨_, h⟩ := grd_some h
      rw [num_det m (u / 128) y (by omega) (by omega) hy] at h
      rw [numL_big hu h1, ← some_eq h]
      exact (num_app [u % 128 + 128] _).symm
theorem num_ex : ∀ (d : Nat) (u : Int), 0 ≤ u → u ≤ 18446744073709551615 → u < 128 ^ (d + 1) → F_retraceref01_Num_N (d + 1) u = some (strOfNums (numL u)) := by
  intro d
  induction d with
  | zero =>
    intro u h0 h1 h2
    show F_retraceref01_Num_B _ u = _
    unfold F_retraceref01_Num_B
    have hu : u < 128 := by omega
    rw [decide_eq_true hu, cond_true, wu8_of h0 (by omega), numL_small hu]
  | succ d ih =>
    intro u h0 h1 h2
    have hp : (128 : Int) ^ (d + 1 + 1) = 128 ^ (d + 1) * 128 := Int.pow_succ _ _
    show F_retraceref01_Num_B _ u = _
    unfold F_retraceref01_Num_B
    by_cases hu : u < 128
    · rw [decide_eq_true hu, cond_true, wu8_of h0 (by omega), numL_small hu]
    · have e1 : wu64 (Int.tdiv u 128) = u / 128 := by rw [Int.tdiv_eq_ediv_of_nonneg h0]; exact wu64_of (by omega) (by omega)
      have e2 : wu8 (wu8 (Int.tmod u 128) + 128) = u % 128 + 128 := by
        rw [Int.tmod_eq_emod_of_nonneg h0, wu8_of (n := u % 128) (by omega) (by omega)]; exact wu8_of (by omega) (by omega)
      rw [decide_eq_false hu, cond_false, e1, e2, ih (u / 128) (by omega) (by omega) (by omega)]
      have := numL_len (u / 128)
      simp only [Option.bind_some]
      unfold grd
      rw [if_pos (by rw [num_size, num_size]; simp; omega), numL_big hu h1]
      exact congrArg some (num_app [u % 128 + 128] _).symm
theorem F_num {u : Int} (h0 : 0 ≤ u) (h1 : u ≤ 18446744073709551615) : F_retraceref01_Num u = some (strOfNums (numL u)) := by
  have e : (128 : Int) ^ (9 + 1) = 1180591620717411303424 := by decide
  exact lim_of 10 (num_ex 9 u h0 h1 (by omega)) (fun m r hr => num_det m u r h0 h1 hr)
end Go.Ab
end
section
namespace Go.Ab
set_option linter.unusedVariables false

theorem split128 (v p : Int) : (v % 128) * p + (v / 128) * (p * 128) = v * p := by
  have h : v = v % 128 + 128 * (v / 128) := (Int.emod_add_mul_ediv v 128).symm
  have e : (v / 128) * (p * 128) = 128 * (v / 128) * p := by
    rw [Int.mul_comm p 128, ← Int.mul_assoc, Int.mul_comm (v / 128) 128]
  rw [e, ← Int.add_mul, ← h]

theorem getS_fwd (l : List Int) (at_ : Int) : ∀ (d k : Nat) (v acc : Int) (rest : List Int), k + d = 10 → 0 < d → 0 ≤ v → v ≤ 18446744073709551615 → v * 128 ^ k < 18446744073709551616 → (0 < v ∨ k = 0) → l.drop k = numL v ++ rest →
    getS l at_ d k acc = (acc + v * 128 ^ k, at_ + k + (numL v).length, 0) := by
  intro d
  induction d with
  | zero => intro k v acc rest _ h; omega
  | succ d ih =>
    intro k v acc rest hk _ h0 h1 h2 h3 hl
    have hk9 : k ≤ 9 := by omega
    obtain ⟨hp, hpb⟩ := pow_bound hk9
    by_cases hv : v < 128
    · rw [numL_small hv] at hl ⊢
      have hc : l[k]? = some v := by
        have := congrArg (fun q => q[0]?) hl
        simpa using this
      have hb : ¬ ((k = 9 ∧ 1 < v) ∨ (v = 0 ∧ 0 < k)) := by
        rintro (⟨rfl, h⟩ | ⟨rfl, h⟩)
        · have e : (128 : Int) ^ 9 = 9223372036854775808 := by decide
          rw [e] at h2; omega
        · omega
      simp only [getS, hc, if_neg hb, if_pos hv]
      simp
    · rw [numL_big hv h1] at hl ⊢
      have hc : l[k]? = some (v % 128 + 128) := by
        have := congrArg (fun q => q[0]?) hl
        simpa using this
      have hk8 : k ≤ 8 := by
        rcases Nat.lt_or_ge k 9 with h | h
        · omega
        · have : k = 9 := by omega
          subst this
          have e : (128 : Int) ^ 9 = 9223372036854775808 := by decide
          rw [e] at h2; omega
      have hb : ¬ ((k = 9 ∧ 1 < v % 128 + 128) ∨ (v % 128 + 128 = 0 ∧ 0 < k)) := by omega
      have hd : ¬ (v % 128 + 128 < 128) := by omega
      have hpk : (128 : Int) ^ (k + 1) = 128 ^ k * 128 := Int.pow_succ _ _
      have hsp := split128 v (128 ^ k)
      have hn0 : 0 ≤ (v % 128) * 128 ^ k := Int.mul_nonneg (by omega) (Int.le_of_lt hp)
      simp only [getS, hc, if_neg hb, if_neg hd]
      rw [ih (k + 1) (v / 128) _ rest (by omega) (by omega) (by omega) (by omega) (by rw [hpk]; omega) (.inl (by omega)) (by
        have := congrArg (List.drop 1) hl
        simpa [List.drop_drop] using this)]
      rw [hpk, show v % 128 + 128 - 128 = v % 128 by omega]
      simp only [Prod.mk.injEq, and_true]
      constructor
      · omega
      · simp; omega

theorem getS_bwd (l : List Int) (hl : ∀ x ∈ l, 0 ≤ x ∧ x ≤ 255) (at_ : Int) : ∀ (d k : Nat) (acc u nx : Int), k + d = 10 → 0 ≤ acc → acc < 128 ^ k → getS l at_ d k acc = (u, nx, 0) →
    ∃ v, 0 ≤ v ∧ v ≤ 18446744073709551615 ∧ u = acc + v * 128 ^ k ∧ nx = at_ + k + (numL v).length ∧ (l.drop k).take (numL v).length = numL v ∧ (0 < v ∨ k = 0) := by
  intro d
  induction d with
  | zero => intro k acc u nx _ _ _ h; simp [getS] at h
  | succ d ih =>
    intro k acc u nx hk h0 h1 h
    have hr := getS_range l hl at_ (d + 1) k acc hk h0 h1
    rw [h] at hr
    have hk9 : k ≤ 9 := by omega
    obtain ⟨hp, hpb⟩ := pow_bound hk9
    unfold getS at h
    split at h
    · simp at h
    · rename_i c hc
      have hm := hl c (List.mem_of_getElem? hc)
      have hdrop : l.drop k = c :: l.drop (k + 1) := by
        have hlt := lt_of_getL hc
        rw [List.drop_eq_getElem_cons hlt]
        have : l[k] = c := by rw [List.getElem?_eq_getElem hlt] at hc; exact Option.some.inj hc
        rw [this]
      split at h
      · simp at h
      · rename_i hb
        split at h
        · rename_i h128
          simp only [Prod.mk.injEq, and_true] at h
          refine ⟨c, hm.1, by omega, h.1.symm, ?_, ?_, by omega⟩
          · rw [numL_small h128]; simp; omega
          · rw [numL_small h128, hdrop]; rfl
        · rename_i h128
          have hk8 : k ≤ 8 := by
            rcases Nat.lt_or_ge k 9 with h' | h'
            · omega
            · exact absurd (Or.inl ⟨by omega, by omega⟩) hb
          have hpk : (128 : Int) ^ (k + 1) = 128 ^ k * 128 := Int.pow_succ _ _
          have hmul := Int.mul_le_mul_of_nonneg_right (by omega : c - 128 ≤ 127) (Int.le_of_lt hp)
          have hmul0 : 0 ≤ (c - 128) * 128 ^ k := Int.mul_nonneg (by omega) (Int.le_of_lt hp)
          obtain ⟨v', e0, e1, e2, e3, e4, e5⟩ := ih (k + 1) _ u nx (by omega) (by omega) (by omega) h
          have hv' : 0 < v' := by omega
          have hsp := split128 ((c - 128) + 128 * v') (128 ^ k)
          have m1 : ((c - 128) + 128 * v') % 128 = c - 128 := by omega
          have m2 : ((c - 128) + 128 * v') / 128 = v' := by omega
          rw [m1, m2] at hsp
          rw [hpk] at e2
          have hu : u = acc + ((c - 128) + 128 * v') * 128 ^ k := by omega
          have hle : (c - 128) + 128 * v' ≤ ((c - 128) + 128 * v') * 128 ^ k := by
            have := Int.mul_le_mul_of_nonneg_left (show (1 : Int) ≤ 128 ^ k by omega) (show 0 ≤ (c - 128) + 128 * v' by omega)
            omega
          have hr2 : u ≤ 18446744073709551615 := hr.2
          have hbig := numL_big (u := (c - 128) + 128 * v') (by omega) (by omega)
          rw [m1, m2, show c - 128 + 128 = c by omega] at hbig
          refine ⟨(c - 128) + 128 * v', by omega, by omega, hu, ?_, ?_, .inl (by omega)⟩
          · rw [hbig]; simp; omega
          · rw [hbig, hdrop]
            simp only [List.length_cons, List.take_succ_cons]
            rw [e4]
end Go.Ab
end
section
namespace Go.Ab
set_option linter.unusedVariables false
theorem getV_ok {s : ByteArray} {p u nx : Int} (h : getV s p = (u, nx, 0)) : ∃ a : Nat, p = a ∧ a + (numL u).length ≤ s.size ∧ 0 ≤ u ∧ u ≤ 18446744073709551615 ∧ nx = ((a + (numL u).length : Nat) : Int) ∧ ((sB s).drop a).take (numL u).length = numL u := by
  unfold getV at h
  split at h
  · cases h
  · rename_i hp
    obtain ⟨a, rfl⟩ := Int.eq_ofNat_of_zero_le (show 0 ≤ p by omega)
    obtain ⟨v, h0, h1, h2, h3, h4, _⟩ := getS_bwd _ (fun x hx => sB_mem (List.mem_of_mem_drop hx)) _ 10 0 0 u nx rfl (by decide) (by decide) h
    have hv : u = v := by simpa using h2
    subst hv
    refine ⟨a, rfl, ?_, h0, h1, ?_, ?_⟩
    · have := congrArg List.length h4
      simp [sB_len] at this
      have := (numL_len u).2
      omega
    · rw [h3]; simp
    · simpa using h4
theorem getV_fwd (s : ByteArray) (a : Nat) (u : Int) (rest : List Int) (h0 : 0 ≤ u) (h1 : u ≤ 18446744073709551615) (h : (sB s).drop a = numL u ++ rest) : getV s a = (u, ((a + (numL u).length : Nat) : Int), 0) := by
  have hlen := congrArg List.length h
  simp [sB_len] at hlen
  have := (numL_len u).2
  unfold getV
  rw [if_neg (by omega)]
  have := getS_fwd ((sB s).drop a) (a : Int) 10 0 u 0 rest rfl (by decide) h0 h1 (by simp; omega) (.inr rfl) (by simpa using h)
  rw [Int.toNat_natCast, this]
  simp

end Go.Ab
end
section
/- Bytes that are written and read, plainly. -/

namespace Go.Ab
set_option linter.unusedVariables false

def intL (n : Int) : List Int := numL (zigN n)
theorem zigN_rng {n : Int} (h0 : -9223372036854775808 ≤ n) (h1 : n ≤ 9223372036854775807) : 0 ≤ zigN n ∧ zigN n ≤ 18446744073709551615 := by
  unfold zigN; split <;> omega
def intsL (l : List Int) : List Int := numL l.length ++ l.flatMap intL
theorem intL_len (n : Int) : (intL n).length ≤ 10 ∧ 0 < (intL n).length := numL_len _
end Go.Ab
end
section
/- Readers, plainly. -/
namespace Go.Ab
set_option linter.unusedVariables false

abbrev RD := T_wire_Reader
def rr (r : RD) : T_retraceref03_Reader := ⟨r.s, r.e⟩
def restB (s : ByteArray) (n : Int) : ByteArray := s.extract n.toNat s.size
def rNum (r : RD) : Int × RD := if r.e ≠ 0 then (0, r) else if (getV r.s 0).2.2 ≠ 0 then (0, ⟨r.s, (getV r.s 0).2.2⟩) else ((getV r.s 0).1, ⟨restB r.s (getV r.s 0).2.1, 0⟩)
def rInt (r : RD) : Int × RD := (zagN (rNum r).1, (rNum r).2)
def rUpto (m : Int) (r : RD) : Int × RD := if r.e ≠ 0 then (0, r) else if (getV r.s 0).2.2 ≠ 0 then (0, ⟨r.s, (getV r.s 0).2.2⟩) else if m < 0 ∨ m < (getV r.s 0).1 then (0, ⟨r.s, 6⟩) else ((getV r.s 0).1, ⟨restB r.s (getV r.s 0).2.1, 0⟩)
def rMany : Nat → RD → List Int × RD
  | 0, r => ([], r)
  | n + 1, r => if r.e ≠ 0 then ([], r) else ((rInt r).1 :: (rMany n (rInt r).2).1, (rMany n (rInt r).2).2)
def rInts (m : Int) (r : RD) : List Int × RD := (if (rMany (rUpto m r).1.toNat (rUpto m r).2).2.e ≠ 0 then [] else (rMany (rUpto m r).1.toNat (rUpto m r).2).1, (rMany (rUpto m r).1.toNat (rUpto m r).2).2)

theorem getV_err0 (s : ByteArray) (p : Int) (h : (getV s p).2.2 ≠ 0) : (getV s p).1 = 0 := by
  have key : ∀ (l : List Int) (a : Int) (d k : Nat) (u : Int), (getS l a d k u).2.2 ≠ 0 → (getS l a d k u).1 = 0 := by
    intro l a d
    induction d with
    | zero => intro k u _; rfl
    | succ d ih =>
      intro k u h
      unfold getS at h ⊢
      split
      · rfl
      · rename_i c hc
        rw [hc] at h
        simp only at h
        split
        · rfl
        · rename_i h1
          rw [if_neg h1] at h
          split
          · rename_i h2; rw [if_pos h2] at h; exact absurd rfl h
          · rename_i h2; rw [if_neg h2] at h; exact ih _ _ h
  unfold getV at h ⊢
  split
  · rfl
  · rename_i hp; rw [if_neg hp] at h; exact key _ _ _ _ _ h
theorem getV_0 {s : ByteArray} (h : (getV s 0).2.2 = 0) : 0 < (getV s 0).2.1 ∧ (getV s 0).2.1 ≤ (s.size : Int) ∧ 0 ≤ (getV s 0).1 ∧ (getV s 0).1 ≤ 18446744073709551615 := by
  obtain ⟨a, ha, hb, hu0, hu1, hnx, _⟩ := getV_ok (s := s) (p := 0) (u := (getV s 0).1) (nx := (getV s 0).2.1) (Prod.ext rfl (Prod.ext rfl h))
  have := (numL_len (getV s 0).1).2
  omega
theorem zag0 : zagN 0 = 0 := by decide
theorem F_get0 (s : ByteArray) (hs : s.size ≤ 281474976710656) : F_vint_Get s 0 = some (getV s 0) := F_get s 0 hs
theorem rest_size (s : ByteArray) (n : Int) (h0 : 0 ≤ n) (h1 : n ≤ (s.size : Int)) : ((restB s n).size : Int) = s.size - n := by
  unfold restB; rw [ByteArray.size_extract]; omega

theorem F_rNum (r : RD) (hs : r.s.size ≤ 281474976710656) : F_wire_Reader_Num r = some (rNum r) := by
  unfold F_wire_Reader_Num F_wire_Reader_step rNum
  by_cases h : r.e = 0
  · rw [show (r.e != 0) = false by simp [h], cond_false, if_neg (by simpa using h)]
    unfold F_wire_Reader_Num_1
    rw [F_get0 _ hs]
    simp only [Option.bind_some]
    by_cases hc : (getV r.s 0).2.2 = 0
    · rw [show ((getV r.s 0).2.2 != 0) = false by simp [hc], cond_false, if_neg (by simpa using hc)]
      have := getV_0 hc
      rw [grd_t (by omega)]
      simp only [Option.bind_some, Int.toNat_natCast, h]; rfl
    · rw [show ((getV r.s 0).2.2 != 0) = true by simpa using hc, cond_true, if_pos hc, getV_err0 _ _ hc]; rfl
  · rw [show (r.e != 0) = true by simpa using h, cond_true, if_pos h]; rfl
theorem F_rNumR (r : RD) (hs : r.s.size ≤ 281474976710656) : F_retraceref03_Reader_Num (rr r) = some ((rNum r).1, rr (rNum r).2) := by
  unfold F_retraceref03_Reader_Num rNum rr
  simp only []
  by_cases h : r.e = 0
  · rw [show (r.e != 0) = false by simp [h], cond_false, if_neg (by simpa using h), F_getR _ _ hs]
    simp only [Option.bind_some, gotOf]
    by_cases hc : (getV r.s 0).2.2 = 0
    · rw [show ((getV r.s 0).2.2 != 0) = false by simp [hc], cond_false, if_neg (by simpa using hc)]
      have := getV_0 hc
      rw [grd_t (by omega), Int.toNat_natCast, h]; rfl
    · rw [show ((getV r.s 0).2.2 != 0) = true by simpa using hc, cond_true, if_pos hc]
      unfold F_retraceref03_Reader_fail
      simp only []
      rw [show (r.e == 0) = true by simp [h], cond_true]; rfl
  · rw [show (r.e != 0) = true by simpa using h, cond_true, if_pos h]
theorem rNum_rng (r : RD) : 0 ≤ (rNum r).1 ∧ (rNum r).1 ≤ 18446744073709551615 := by
  have := getV_range r.s 0
  unfold rNum; split
  · exact ⟨Int.le_refl _, by show (0 : Int) ≤ _; decide⟩
  · split
    · exact ⟨Int.le_refl _, by show (0 : Int) ≤ _; decide⟩
    · exact this
theorem rNum_size (r : RD) : (rNum r).2.s.size ≤ r.s.size ∧ (r.e = 0 → (rNum r).2.e = 0 → (rNum r).2.s.size < r.s.size) := by
  unfold rNum
  split
  · rename_i h; exact ⟨Nat.le_refl _, fun h' => absurd h' h⟩
  · split
    · rename_i h; exact ⟨Nat.le_refl _, fun _ h' => absurd h' h⟩
    · rename_i h
      have h0 := getV_0 (s := r.s) (by simpa using h)
      have := rest_size r.s (getV r.s 0).2.1 (by omega) (by omega)
      exact ⟨by show (restB _ _).size ≤ _; omega, fun _ _ => by show (restB _ _).size < _; omega⟩
theorem F_rInt (r : RD) (hs : r.s.size ≤ 281474976710656) : F_wire_Reader_Int r = some (rInt r) := by
  unfold F_wire_Reader_Int F_wire_Reader_step_v3 rInt rNum
  by_cases h : r.e = 0
  · rw [show (r.e != 0) = false by simp [h], cond_false, if_neg (by simpa using h)]
    unfold F_wire_Reader_Int_1 F_vint_GetInt
    rw [F_get0 _ hs]
    have hrng := getV_range r.s 0
    simp only [Option.bind_some]
    rw [F_zag _ hrng.1 hrng.2]
    simp only [Option.bind_some]
    by_cases hc : (getV r.s 0).2.2 = 0
    · rw [show ((getV r.s 0).2.2 != 0) = false by simp [hc], cond_false, if_neg (by simpa using hc)]
      have := getV_0 hc
      rw [grd_t (by omega)]
      simp only [Option.bind_some, Int.toNat_natCast, h]; rfl
    · rw [show ((getV r.s 0).2.2 != 0) = true by simpa using hc, cond_true, if_pos hc, getV_err0 _ _ hc]; rfl
  · rw [show (r.e != 0) = true by simpa using h, cond_true, if_pos h]; rfl
theorem F_rIntR (r : RD) (hs : r.s.size ≤ 281474976710656) : F_retraceref03_Reader_Int (rr r) = some ((rInt r).1, rr (rInt r).2) := by
  unfold F_retraceref03_Reader_Int rInt
  rw [F_rNumR r hs]
  simp only [Option.bind_some]
  rw [F_zagR _ (rNum_rng r).1 (rNum_rng r).2]; rfl
theorem F_rUpto (m : Int) (hm : -9223372036854775808 ≤ m ∧ m ≤ 9223372036854775807) (r : RD) (hs : r.s.size ≤ 281474976710656) : F_wire_Reader_Upto m r = some (rUpto m r) := by
  unfold F_wire_Reader_Upto F_wire_Reader_step_v2 rUpto
  by_cases h : r.e = 0
  · rw [show (r.e != 0) = false by simp [h], cond_false, if_neg (by simpa using h)]
    unfold F_wire_Reader_Upto_1
    rw [F_get0 _ hs]
    simp only [Option.bind_some, F_wire_Reader_Upto_1_J1]
    by_cases hc : (getV r.s 0).2.2 = 0
    · rw [beqt hc, cond_true, if_neg (by simpa using hc)]
      have h0 := getV_0 hc
      by_cases h1 : m < 0
      · rw [dct h1, if_pos (.inl h1)]; rfl
      · rw [dcf h1, cond_false, wu64_of (by omega) (by omega)]
        by_cases h2 : m < (getV r.s 0).1
        · rw [dct h2, if_pos (.inr h2)]; rfl
        · rw [dcf h2, if_neg (by omega)]
          simp only [cond_false, Option.bind_some]
          rw [show ((getV r.s 0).2.2 != 0) = false by simp [hc], cond_false, grd_t (by omega)]
          simp only [Option.bind_some, Bool.not_true, cond_false, Int.toNat_natCast, h]
          rw [w64i (by omega) (by omega)]; rfl
    · rw [beqf hc, cond_false, if_pos hc]
      simp only [cond_false, Option.bind_some]
      rw [show ((getV r.s 0).2.2 != 0) = true by simpa using hc, cond_true]; rfl
  · rw [show (r.e != 0) = true by simpa using h, cond_true, if_pos h]; rfl
theorem rNum_bad {r : RD} (h : r.e ≠ 0) : rNum r = (0, r) := if_pos h
theorem rNum_err {r : RD} (h : r.e = 0) (hc : (getV r.s 0).2.2 ≠ 0) : rNum r = (0, ⟨r.s, (getV r.s 0).2.2⟩) := by
  unfold rNum; rw [if_neg (by simpa using h), if_pos hc]
theorem rNum_ok {r : RD} (h : r.e = 0) (hc : (getV r.s 0).2.2 = 0) : rNum r = ((getV r.s 0).1, ⟨restB r.s (getV r.s 0).2.1, 0⟩) := by
  unfold rNum; rw [if_neg (by simpa using h), if_neg (by simpa using hc)]
theorem F_rUptoR (m : Int) (hm : -9223372036854775808 ≤ m ∧ m ≤ 9223372036854775807) (r : RD) (hs : r.s.size ≤ 281474976710656) : F_retraceref03_Reader_Upto m (rr r) = some ((rUpto m r).1, rr (rUpto m r).2) := by
  unfold F_retraceref03_Reader_Upto
  rw [F_rNumR r hs]
  simp only [Option.bind_some, F_retraceref03_Reader_Upto_J1]
  unfold rUpto
  by_cases h : r.e = 0
  · rw [if_neg (by simpa using h)]
    by_cases hc : (getV r.s 0).2.2 = 0
    · rw [rNum_ok h hc, if_neg (by simpa using hc)]
      have h0 := getV_0 hc
      simp only [rr, beq_self_eq_true, cond_true]
      by_cases h1 : m < 0
      · rw [dct h1, if_pos (.inl h1), cond_true]; simp [F_retraceref03_Reader_fail]
      · rw [dcf h1, cond_false, wu64_of (by omega) (by omega)]
        by_cases h2 : m < (getV r.s 0).1
        · rw [dct h2, if_pos (.inr h2), cond_true]; simp [F_retraceref03_Reader_fail]
        · rw [dcf h2, if_neg (by omega), cond_false, w64i (by omega) (by omega)]
    · rw [rNum_err h hc, if_pos hc]
      simp only [rr]
      rw [beqf hc, cond_false, cond_false]; rfl
  · rw [rNum_bad h, if_pos h]
    simp only [rr]
    rw [beqf h, cond_false, cond_false]; rfl
theorem rUpto_ok (m : Int) (hm : m ≤ 9223372036854775807) (r : RD) : 0 ≤ (rUpto m r).1 ∧ (rUpto m r).1 ≤ 9223372036854775807 ∧ (rUpto m r).2.s.size ≤ r.s.size := by
  unfold rUpto
  split
  · exact ⟨Int.le_refl _, by show (0 : Int) ≤ _; decide, Nat.le_refl _⟩
  split
  · exact ⟨Int.le_refl _, by show (0 : Int) ≤ _; decide, Nat.le_refl _⟩
  rename_i hc
  have h0 := getV_0 (s := r.s) (by simpa using hc)
  split
  · exact ⟨Int.le_refl _, by show (0 : Int) ≤ _; decide, Nat.le_refl _⟩
  · rename_i h1
    have := rest_size r.s (getV r.s 0).2.1 (by omega) (by omega)
    exact ⟨h0.2.2.1, by show (getV r.s 0).1 ≤ _; omega, by show (restB _ _).size ≤ _; omega⟩
end Go.Ab
end
section
/- WireReads and WireNone, plainly. -/
namespace Go.Ab
set_option linter.unusedVariables false

theorem rInt_size (r : RD) : (rInt r).2.s.size ≤ r.s.size ∧ (r.e = 0 → (rInt r).2.e = 0 → (rInt r).2.s.size < r.s.size) := rNum_size r
theorem rMany_bad {r : RD} (h : r.e ≠ 0) (n : Nat) : rMany n r = ([], r) := by
  cases n with
  | zero => rfl
  | succ n => exact if_pos h
theorem rMany_len : ∀ (n : Nat) (r : RD), (rMany n r).1.length ≤ r.s.size + 1 ∧ (rMany n r).2.s.size ≤ r.s.size
  | 0, r => ⟨Nat.zero_le _, Nat.le_refl _⟩
  | n + 1, r => by
    unfold rMany
    split
    · exact ⟨Nat.zero_le _, Nat.le_refl _⟩
    · rename_i h
      have h1 := rInt_size r
      obtain ⟨h2, h3⟩ := rMany_len n (rInt r).2
      by_cases he : (rInt r).2.e = 0
      · have := h1.2 (by simpa using h) he
        exact ⟨by simp only [List.length_cons]; omega, by show (rMany n (rInt r).2).2.s.size ≤ _; omega⟩
      · rw [rMany_bad he]
        exact ⟨by simp, h1.1⟩
theorem many_prog (y : Int × RD) : ∀ (n : Nat) (r : RD) (out : List Int), (out.length : Int) + n = y.1 → out.length + r.s.size ≤ 1000000 → out.length ≤ 1000001 → r.s.size ≤ 1000000 → (r.e = 0 ∨ True) →
    Loop (fun s : (ByteArray × Int × (List Int)) => F_wire_Reader_Ints_L2 y s.1 s.2.1 s.2.2) (r.s, r.e, out) = some (if (rMany n r).2.e ≠ 0 then [] else out ++ (rMany n r).1, (rMany n r).2) := by
  have fin : ∀ (r : RD) (out : List Int), F_wire_Reader_Ints_J1 r.s r.e out false = some (.inr (if r.e ≠ 0 then [] else out, r)) := by
    intro r out
    unfold F_wire_Reader_Ints_J1 F_wire_Reader_Err
    rw [cond_false]
    simp only [Option.bind_some]
    by_cases h : r.e = 0
    · rw [show (r.e != 0) = false by simp [h], cond_false, if_neg (by simpa using h)]; rfl
    · rw [show (r.e != 0) = true by simpa using h, cond_true, if_pos h]; rfl
  intro n
  induction n with
  | zero =>
    intro r out hn hb hb2 hb3 _
    refine Loop_inr ?_
    show F_wire_Reader_Ints_L2 y r.s r.e out = _
    unfold F_wire_Reader_Ints_L2
    rw [dcf (by omega), cond_false, fin]
    simp [rMany]
  | succ n ih =>
    intro r out hn hb hb2 hb3 _
    by_cases he : r.e = 0
    · have hs := rInt_size r
      have step : F_wire_Reader_Ints_L2 y r.s r.e out = some (.inl ((rInt r).2.s, (rInt r).2.e, out ++ [(rInt r).1])) := by
        unfold F_wire_Reader_Ints_L2 F_wire_Reader_Err F_wire_Reader_Ints_J1
        rw [dct (by omega), cond_true]
        simp only [Option.bind_some]
        rw [beqt he, cond_true, F_rInt ⟨r.s, r.e⟩ (by show r.s.size ≤ _; omega)]
        simp only [Option.bind_some]
        rw [grd_t (by simp; omega)]
      rw [Loop_inl (step := fun s : (ByteArray × Int × (List Int)) => F_wire_Reader_Ints_L2 y s.1 s.2.1 s.2.2) (s := (r.s, r.e, out)) step]
      by_cases he2 : (rInt r).2.e = 0
      · have hlt := hs.2 he he2
        rw [ih (rInt r).2 (out ++ [(rInt r).1]) (by simp; omega) (by simp; omega) (by simp; omega) (by omega) (.inr trivial)]
        have e : rMany (n + 1) r = ((rInt r).1 :: (rMany n (rInt r).2).1, (rMany n (rInt r).2).2) := if_neg (by simpa using he)
        rw [e]
        simp
      · have e : rMany (n + 1) r = ((rInt r).1 :: (rMany n (rInt r).2).1, (rMany n (rInt r).2).2) := if_neg (by simpa using he)
        rw [e, rMany_bad he2]
        refine Loop_inr ?_
        show F_wire_Reader_Ints_L2 y (rInt r).2.s (rInt r).2.e (out ++ [(rInt r).1]) = _
        unfold F_wire_Reader_Ints_L2 F_wire_Reader_Err
        simp only [Option.bind_some]
        rw [beqf he2, fin, if_pos he2]
        cases decide (((out ++ [(rInt r).1]).length : Int) < y.1) <;> rfl
    · rw [rMany_bad he]
      refine Loop_inr ?_
      show F_wire_Reader_Ints_L2 y r.s r.e out = _
      unfold F_wire_Reader_Ints_L2 F_wire_Reader_Err
      simp only [Option.bind_some]
      simp only [ne_eq, he, not_false_eq_true, if_true]
      rw [beqf he, fin, if_pos he]
      cases decide ((out.length : Int) < y.1) <;> rfl
theorem many_ref (y : Int × T_retraceref03_Reader) : ∀ (n : Nat) (r : RD) (out : List Int), (out.length : Int) + n = y.1 → out.length + r.s.size ≤ 1000000 → out.length ≤ 1000001 → r.s.size ≤ 1000000 → (r.e = 0 ∨ True) →
    Loop (fun s : (Int × ByteArray × Int × (List Int)) => F_retraceref03_Reader_Ints_L2 y s.1 s.2.1 s.2.2.1 s.2.2.2) ((out.length : Int), r.s, r.e, out) = some (if (rMany n r).2.e ≠ 0 then [] else out ++ (rMany n r).1, rr (rMany n r).2) := by
  have fin : ∀ (r : RD) (i : Int) (out : List Int), F_retraceref03_Reader_Ints_J1 i r.s r.e out false = some (.inr (if r.e ≠ 0 then [] else out, rr r)) := by
    intro r i out
    unfold F_retraceref03_Reader_Ints_J1
    rw [cond_false]
    by_cases h : r.e = 0
    · rw [show (r.e != 0) = false by simp [h], cond_false, if_neg (by simpa using h)]; rfl
    · rw [show (r.e != 0) = true by simpa using h, cond_true, if_pos h]; rfl
  intro n
  induction n with
  | zero =>
    intro r out hn hb hb2 hb3 _
    refine Loop_inr ?_
    show F_retraceref03_Reader_Ints_L2 y (out.length : Int) r.s r.e out = _
    unfold F_retraceref03_Reader_Ints_L2
    rw [dcf (by omega), cond_false, fin]
    simp [rMany]
  | succ n ih =>
    intro r out hn hb hb2 hb3 _
    by_cases he : r.e = 0
    · have hs := rInt_size r
      have step : F_retraceref03_Reader_Ints_L2 y (out.length : Int) r.s r.e out = some (.inl (((out ++ [(rInt r).1]).length : Int), (rInt r).2.s, (rInt r).2.e, out ++ [(rInt r).1])) := by
        unfold F_retraceref03_Reader_Ints_L2 F_retraceref03_Reader_Ints_J1
        rw [dct (by omega), cond_true, beqt he, cond_true, show (⟨r.s, r.e⟩ : T_retraceref03_Reader) = rr r from rfl, F_rIntR r (by omega)]
        simp only [Option.bind_some]
        rw [grd_t (by simp; omega), w64s (by omega)]
        simp [rr]
      rw [Loop_inl (step := fun s : (Int × ByteArray × Int × (List Int)) => F_retraceref03_Reader_Ints_L2 y s.1 s.2.1 s.2.2.1 s.2.2.2) (s := ((out.length : Int), r.s, r.e, out)) step]
      by_cases he2 : (rInt r).2.e = 0
      · have hlt := hs.2 he he2
        rw [ih (rInt r).2 (out ++ [(rInt r).1]) (by simp; omega) (by simp; omega) (by simp; omega) (by omega) (.inr trivial)]
        have e : rMany (n + 1) r = ((rInt r).1 :: (rMany n (rInt r).2).1, (rMany n (rInt r).2).2) := if_neg (by simpa using he)
        rw [e]
        simp
      · have e : rMany (n + 1) r = ((rInt r).1 :: (rMany n (rInt r).2).1, (rMany n (rInt r).2).2) := if_neg (by simpa using he)
        rw [e, rMany_bad he2]
        refine Loop_inr ?_
        show F_retraceref03_Reader_Ints_L2 y ((out ++ [(rInt r).1]).length : Int) (rInt r).2.s (rInt r).2.e (out ++ [(rInt r).1]) = _
        unfold F_retraceref03_Reader_Ints_L2
        rw [beqf he2, fin, if_pos he2]
        cases decide (((out ++ [(rInt r).1]).length : Int) < y.1) <;> rfl
    · rw [rMany_bad he]
      refine Loop_inr ?_
      show F_retraceref03_Reader_Ints_L2 y (out.length : Int) r.s r.e out = _
      unfold F_retraceref03_Reader_Ints_L2
      simp only [ne_eq, he, not_false_eq_true, if_true]
      rw [beqf he, fin, if_pos he]
      cases decide ((out.length : Int) < y.1) <;> rfl
theorem F_rInts (m : Int) (hm : -9223372036854775808 ≤ m ∧ m ≤ 9223372036854775807) (r : RD) (hs : r.s.size ≤ 900000) : F_wire_Reader_Ints m r = some (rInts m r) := by
  unfold F_wire_Reader_Ints rInts
  rw [F_rUpto m hm r (by omega)]
  simp only [Option.bind_some]
  have hu := rUpto_ok m hm.2 r
  have := many_prog (rUpto m r) (rUpto m r).1.toNat (rUpto m r).2 [] (by simp; omega) (by simp; omega) (by simp) (by omega) (.inr trivial)
  simpa using this
theorem F_rIntsR (m : Int) (hm : -9223372036854775808 ≤ m ∧ m ≤ 9223372036854775807) (r : RD) (hs : r.s.size ≤ 900000) : F_retraceref03_Reader_Ints m (rr r) = some ((rInts m r).1, rr (rInts m r).2) := by
  unfold F_retraceref03_Reader_Ints rInts
  rw [F_rUptoR m hm r (by omega)]
  simp only [Option.bind_some]
  have hu := rUpto_ok m hm.2 r
  have := many_ref ((rUpto m r).1, rr (rUpto m r).2) (rUpto m r).1.toNat (rUpto m r).2 [] (by simp; omega) (by simp; omega) (by simp) (by omega) (.inr trivial)
  simpa [rr] using this
theorem rInts_len (m : Int) (hm : m ≤ 9223372036854775807) (r : RD) : (rInts m r).1.length ≤ r.s.size + 1 ∧ (rInts m r).2.s.size ≤ r.s.size := by
  have h1 := rUpto_ok m hm r
  have h2 := rMany_len (rUpto m r).1.toNat (rUpto m r).2
  unfold rInts
  refine ⟨?_, by show (rMany _ _).2.s.size ≤ _; omega⟩
  show (if _ then [] else _ : List Int).length ≤ _
  split
  · simp
  · omega
/-- What a read makes of a reader. -/
def endV (r : RD) : Int := if r.e ≠ 0 ∨ r.s.size = 0 then r.e else 3
theorem F_rEnd (r : RD) : F_wire_Reader_End r = some (endV r) := by
  unfold F_wire_Reader_End F_wire_Reader_End_J1 F_wire_Reader_Err F_wire_Reader_Left endV
  simp only [Option.bind_some]
  by_cases h : r.e = 0
  · rw [show (r.e != 0) = false by simp [h], cond_false]
    by_cases h1 : r.s.size = 0
    · rw [beqt (by omega), cond_true, if_pos (.inr h1)]
    · rw [beqf (by omega), cond_false, if_neg (by simp [h, h1])]
  · rw [show (r.e != 0) = true by simpa using h, cond_true, cond_true, if_pos (.inl h)]
theorem F_rEndR (r : RD) : F_retraceref03_Reader_End (rr r) = some (endV r) := by
  unfold F_retraceref03_Reader_End F_retraceref03_Reader_End_J1 endV rr
  simp only []
  by_cases h : r.e = 0
  · rw [beqt h, cond_true]
    by_cases h1 : r.s.size = 0
    · rw [dcf (by omega), cond_false, if_pos (.inr h1)]
    · rw [dct (by omega), cond_true, if_neg (by simp [h, h1])]
  · rw [beqf h, cond_false, cond_false, if_pos (.inl h)]
end Go.Ab
end
section
namespace Go.Ab
set_option linter.unusedVariables false
theorem sB_rest (s : ByteArray) (n : Int) (h0 : 0 ≤ n) : sB (restB s n) = (sB s).drop n.toNat := by
  unfold restB
  rw [sB_cut, List.take_of_length_le (by rw [sB_len]; exact Nat.le_refl _)]
/-- a number that was read stood there -/
theorem rNum_back {r : RD} (h : r.e = 0) (h' : (rNum r).2.e = 0) : sB r.s = numL (rNum r).1 ++ sB (rNum r).2.s := by
  have hc : (getV r.s 0).2.2 = 0 := by
    cases hd : decide ((getV r.s 0).2.2 = 0) with
    | true => exact of_decide_eq_true hd
    | false => rw [rNum_err h (of_decide_eq_false hd)] at h'; exact h'
  rw [rNum_ok h hc]
  have e : getV r.s 0 = ((getV r.s 0).1, (getV r.s 0).2.1, 0) := Prod.ext rfl (Prod.ext rfl hc)
  obtain ⟨a, ha, h1, h2, h3, h4, h5⟩ := getV_ok e
  have ha0 : a = 0 := by omega
  subst ha0
  show sB r.s = numL (getV r.s 0).1 ++ sB (restB r.s (getV r.s 0).2.1)
  rw [sB_rest _ _ (by omega), h4, Nat.zero_add, Int.toNat_natCast]
  rw [List.drop_zero] at h5
  conv => lhs; rw [← List.take_append_drop (numL (getV r.s 0).1).length (sB r.s)]
  rw [h5]
theorem rNum_fwd {r : RD} (h : r.e = 0) {u : Int} (h0 : 0 ≤ u) (h1 : u ≤ 18446744073709551615) {rest : List Int} (hs : sB r.s = numL u ++ rest) : ∃ r' : RD, rNum r = (u, r') ∧ r'.e = 0 ∧ sB r'.s = rest := by
  have e := getV_fwd r.s 0 u rest h0 h1 (by rw [List.drop_zero]; exact hs)
  have e' : getV r.s 0 = (u, ((0 + (numL u).length : Nat) : Int), 0) := e
  refine ⟨⟨restB r.s (getV r.s 0).2.1, 0⟩, ?_, rfl, ?_⟩
  · rw [rNum_ok h (by rw [e']), e']
  · rw [e']
    show sB (restB r.s ((0 + (numL u).length : Nat) : Int)) = rest
    rw [sB_rest _ _ (by omega), hs, Nat.zero_add, Int.toNat_natCast, List.drop_left]
theorem rInt_back {r : RD} (h : r.e = 0) (h' : (rInt r).2.e = 0) : sB r.s = intL (rInt r).1 ++ sB (rInt r).2.s := by
  have := rNum_back h h'
  unfold intL rInt
  simp only
  rw [zig_zag _ (rNum_rng r).1]
  exact this
theorem rInt_fwd {r : RD} (h : r.e = 0) {n : Int} (h0 : -9223372036854775808 ≤ n) (h1 : n ≤ 9223372036854775807) {rest : List Int} (hs : sB r.s = intL n ++ rest) : ∃ r' : RD, rInt r = (n, r') ∧ r'.e = 0 ∧ sB r'.s = rest := by
  obtain ⟨a, b⟩ := zigN_rng h0 h1
  obtain ⟨r', e, e1, e2⟩ := rNum_fwd h a b hs
  refine ⟨r', ?_, e1, e2⟩
  unfold rInt
  rw [e, zag_zig]
theorem rInt_rng (r : RD) : -9223372036854775808 ≤ (rInt r).1 ∧ (rInt r).1 ≤ 9223372036854775807 := by
  obtain ⟨a, b⟩ := rNum_rng r
  exact ⟨zag_lo _ a b, zag_hi _ a b⟩
theorem rInt_bad {r : RD} (h : r.e ≠ 0) : rInt r = (0, r) := by
  unfold rInt; rw [rNum_bad h, zag0]
theorem rUpto_fwd {m u : Int} {r : RD} (h : r.e = 0) (h0 : 0 ≤ u) (h1 : u ≤ m) (hm : m ≤ 9223372036854775807) {rest : List Int} (hs : sB r.s = numL u ++ rest) : ∃ r' : RD, rUpto m r = (u, r') ∧ r'.e = 0 ∧ sB r'.s = rest := by
  have e := getV_fwd r.s 0 u rest h0 (by omega) (by rw [List.drop_zero]; exact hs)
  have e' : getV r.s 0 = (u, ((0 + (numL u).length : Nat) : Int), 0) := e
  refine ⟨⟨restB r.s (getV r.s 0).2.1, 0⟩, ?_, rfl, ?_⟩
  · unfold rUpto
    rw [if_neg (by simpa using h), if_neg (by rw [e']; simp), if_neg (by rw [e']; simp only; omega), e']
  · rw [e']
    show sB (restB r.s ((0 + (numL u).length : Nat) : Int)) = rest
    rw [sB_rest _ _ (by omega), hs, Nat.zero_add, Int.toNat_natCast, List.drop_left]
theorem rUpto_back {m : Int} {r : RD} (h : r.e = 0) (h' : (rUpto m r).2.e = 0) : sB r.s = numL (rUpto m r).1 ++ sB (rUpto m r).2.s ∧ 0 ≤ (rUpto m r).1 ∧ (rUpto m r).1 ≤ m := by
  unfold rUpto at h' ⊢
  rw [if_neg (by simpa using h)] at h' ⊢
  split at h'
  · rename_i hc; exact absurd h' hc
  · rename_i hc
    have hc : (getV r.s 0).2.2 = 0 := by omega
    rw [if_neg (by omega)]
    split at h'
    · cases h'
    · rename_i hm
      rw [if_neg hm]
      have e : getV r.s 0 = ((getV r.s 0).1, (getV r.s 0).2.1, 0) := Prod.ext rfl (Prod.ext rfl hc)
      obtain ⟨a, ha, h1, h2, h3, h4, h5⟩ := getV_ok e
      have ha0 : a = 0 := by omega
      subst ha0
      refine ⟨?_, h2, by simp only; omega⟩
      show sB r.s = numL (getV r.s 0).1 ++ sB (restB r.s (getV r.s 0).2.1)
      rw [sB_rest _ _ (by omega), h4, Nat.zero_add, Int.toNat_natCast]
      rw [List.drop_zero] at h5
      conv => lhs; rw [← List.take_append_drop (numL (getV r.s 0).1).length (sB r.s)]
      rw [h5]
theorem endV_0 {r : RD} (h : endV r = 0) : r.e = 0 ∧ r.s.size = 0 := by
  unfold endV at h
  split at h
  · rename_i q
    exact ⟨h, q.resolve_left (fun x => x h)⟩
  · cases h
end Go.Ab
end
section
/- What is read, and what was written: readers put together. -/
namespace Go.Ab
set_option linter.unusedVariables false
/-- one reads what enc writes -/
structure Rdr {α : Type} (one : RD → α × RD) (enc : α → List Int) (ok : α → Prop) : Prop where
  bad : ∀ r : RD, r.e ≠ 0 → (one r).2 = r
  shr : ∀ r : RD, (one r).2.s.size ≤ r.s.size ∧ (r.e = 0 → (one r).2.e = 0 → (one r).2.s.size < r.s.size)
  fwd : ∀ (x : α) (r : RD) (rest : List Int), ok x → r.e = 0 → sB r.s = enc x ++ rest → ∃ r' : RD, one r = (x, r') ∧ r'.e = 0 ∧ sB r'.s = rest
  bwd : ∀ r : RD, r.e = 0 → (one r).2.e = 0 → sB r.s = enc (one r).1 ++ sB (one r).2.s ∧ ok (one r).1
section
variable {α β : Type} {one : RD → α × RD} {enc : α → List Int} {ok : α → Prop} {two : RD → β × RD} {enc2 : β → List Int} {ok2 : β → Prop}
theorem Rdr.e0 (h : Rdr one enc ok) {r : RD} (h' : (one r).2.e = 0) : r.e = 0 := by
  cases hd : decide (r.e = 0) with
  | true => exact of_decide_eq_true hd
  | false => rw [h.bad r (of_decide_eq_false hd)] at h'; exact h'
def pairR (one : RD → α × RD) (two : RD → β × RD) (r : RD) : (α × β) × RD := (((one r).1, (two (one r).2).1), (two (one r).2).2)
theorem Rdr.pair (h : Rdr one enc ok) (k : Rdr two enc2 ok2) : Rdr (pairR one two) (fun x => enc x.1 ++ enc2 x.2) (fun x => ok x.1 ∧ ok2 x.2) where
  bad := fun r hr => by
    show (two (one r).2).2 = r
    have := h.bad r hr
    rw [this]; exact k.bad r hr
  shr := fun r => by
    show (two (one r).2).2.s.size ≤ _ ∧ (_ → (two (one r).2).2.e = 0 → (two (one r).2).2.s.size < _)
    obtain ⟨a, b⟩ := h.shr r
    obtain ⟨c, d⟩ := k.shr (one r).2
    refine ⟨by omega, fun hr he => ?_⟩
    have := b hr (k.e0 he)
    omega
  fwd := fun x r rest hx hr hs => by
    obtain ⟨r1, e1, f1, s1⟩ := h.fwd x.1 r (enc2 x.2 ++ rest) hx.1 hr (by rw [hs, List.append_assoc])
    obtain ⟨r2, e2, f2, s2⟩ := k.fwd x.2 r1 rest hx.2 f1 s1
    refine ⟨r2, ?_, f2, s2⟩
    unfold pairR
    rw [e1]
    simp only
    rw [e2]
  bwd := fun r hr he => by
    have he : (two (one r).2).2.e = 0 := he
    have h1 := k.e0 he
    obtain ⟨a, b⟩ := h.bwd r hr h1
    obtain ⟨c, d⟩ := k.bwd (one r).2 h1 he
    refine ⟨?_, b, d⟩
    show sB r.s = (enc (one r).1 ++ enc2 (two (one r).2).1) ++ sB (two (one r).2).2.s
    rw [List.append_assoc, ← c, ← a]
theorem Rdr.iso (h : Rdr one enc ok) (f : α → β) (g : β → α) (fg : ∀ b, f (g b) = b) (gf : ∀ a, g (f a) = a) : Rdr (fun r => (f (one r).1, (one r).2)) (fun b => enc (g b)) (fun b => ok (g b)) where
  bad := h.bad
  shr := h.shr
  fwd := fun x r rest hx hr hs => by
    obtain ⟨r1, e1, f1, s1⟩ := h.fwd (g x) r rest hx hr hs
    exact ⟨r1, by rw [e1]; simp only [fg], f1, s1⟩
  bwd := fun r hr he => by
    obtain ⟨a, b⟩ := h.bwd r hr he
    simp only [gf]
    exact ⟨a, b⟩
def many (one : RD → α × RD) : Nat → RD → List α × RD
  | 0, r => ([], r)
  | n + 1, r => if r.e ≠ 0 then ([], r) else ((one r).1 :: (many one n (one r).2).1, (many one n (one r).2).2)
theorem many_bad {r : RD} (h : r.e ≠ 0) (n : Nat) : many one n r = ([], r) := by
  cases n with
  | zero => rfl
  | succ n => exact if_pos h
theorem many_good {r : RD} (h : r.e = 0) (n : Nat) : many one (n + 1) r = ((one r).1 :: (many one n (one r).2).1, (many one n (one r).2).2) := if_neg (by simpa using h)
theorem many_len (h : Rdr one enc ok) : ∀ (n : Nat) (r : RD), (many one n r).1.length ≤ r.s.size + 1 ∧ (many one n r).2.s.size ≤ r.s.size
  | 0, r => ⟨Nat.zero_le _, Nat.le_refl _⟩
  | n + 1, r => by
    by_cases he : r.e = 0
    · rw [many_good he]
      obtain ⟨a, b⟩ := h.shr r
      obtain ⟨c, d⟩ := many_len h n (one r).2
      by_cases he2 : (one r).2.e = 0
      · have := b he he2
        exact ⟨by simp only [List.length_cons]; omega, by simp only; omega⟩
      · rw [many_bad he2]
        exact ⟨by simp, a⟩
    · rw [many_bad he]; exact ⟨Nat.zero_le _, Nat.le_refl _⟩
theorem many_all (h : Rdr one enc ok) {B : Nat} {p : α → Prop} (hp : ∀ r : RD, r.s.size ≤ B → p (one r).1) : ∀ (n : Nat) (r : RD), r.s.size ≤ B → ∀ x ∈ (many one n r).1, p x
  | 0, r, _ => fun x hx => by cases hx
  | n + 1, r, hr => fun x hx => by
    by_cases he : r.e = 0
    · rw [many_good he] at hx
      rcases List.mem_cons.1 hx with e | hx
      · rw [e]; exact hp r hr
      · exact many_all h hp n (one r).2 (by have := (h.shr r).1; omega) x hx
    · rw [many_bad he] at hx; cases hx
theorem many_fwd (h : Rdr one enc ok) : ∀ (l : List α) (r : RD) (rest : List Int), (∀ x ∈ l, ok x) → r.e = 0 → sB r.s = l.flatMap enc ++ rest → ∃ r' : RD, many one l.length r = (l, r') ∧ r'.e = 0 ∧ sB r'.s = rest
  | [], r, rest, _, hr, hs => ⟨r, rfl, hr, by simpa using hs⟩
  | x :: l, r, rest, hk, hr, hs => by
    obtain ⟨r1, e1, f1, s1⟩ := h.fwd x r (l.flatMap enc ++ rest) (hk x (List.mem_cons_self ..)) hr (by rw [hs]; simp)
    obtain ⟨r2, e2, f2, s2⟩ := many_fwd h l r1 rest (fun y hy => hk y (List.mem_cons_of_mem _ hy)) f1 s1
    refine ⟨r2, ?_, f2, s2⟩
    rw [List.length_cons, many_good hr, e1]
    simp only
    rw [e2]
theorem many_back (h : Rdr one enc ok) : ∀ (n : Nat) (r : RD), (many one n r).2.e = 0 → (many one n r).1.length = n ∧ sB r.s = (many one n r).1.flatMap enc ++ sB (many one n r).2.s ∧ ∀ x ∈ (many one n r).1, ok x
  | 0, r, _ => ⟨rfl, by simp [many], fun x hx => by cases hx⟩
  | n + 1, r, he => by
    by_cases hr : r.e = 0
    · rw [many_good hr] at he ⊢
      have he' : (many one n (one r).2).2.e = 0 := he
      have h1 : (one r).2.e = 0 := by
        cases hd : decide ((one r).2.e = 0) with
        | true => exact of_decide_eq_true hd
        | false => rw [many_bad (of_decide_eq_false hd)] at he'; exact he'
      obtain ⟨a, b⟩ := h.bwd r hr h1
      obtain ⟨c, d, e⟩ := many_back h n (one r).2 he'
      refine ⟨by simp [c], ?_, fun x hx => ?_⟩
      · rw [a, d]; simp
      · rcases List.mem_cons.1 hx with q | q
        · rw [q]; exact b
        · exact e x q
    · rw [many_bad hr] at he; exact absurd he hr
theorem rUpto_bad {m : Int} {r : RD} (h : r.e ≠ 0) : rUpto m r = (0, r) := if_pos h
theorem rUpto_shr {m : Int} (hm : m ≤ 9223372036854775807) (r : RD) : (rUpto m r).2.s.size ≤ r.s.size ∧ (r.e = 0 → (rUpto m r).2.e = 0 → (rUpto m r).2.s.size < r.s.size) := by
  refine ⟨(rUpto_ok m hm r).2.2, fun hr he => ?_⟩
  obtain ⟨a, b, c⟩ := rUpto_back hr he
  have h1 := congrArg List.length a
  rw [List.length_append, sB_len, sB_len] at h1
  have := (numL_len (rUpto m r).1).2
  omega
def listR (m : Int) (one : RD → α × RD) (r : RD) : List α × RD := many one (rUpto m r).1.toNat (rUpto m r).2
def listL (enc : α → List Int) (l : List α) : List Int := numL l.length ++ l.flatMap enc
theorem Rdr.list (h : Rdr one enc ok) (m : Int) (hm : 0 ≤ m ∧ m ≤ 9223372036854775807) : Rdr (listR m one) (listL enc) (fun l => (l.length : Int) ≤ m ∧ ∀ x ∈ l, ok x) where
  bad := fun r hr => by
    show (many one (rUpto m r).1.toNat (rUpto m r).2).2 = r
    rw [rUpto_bad hr]; rfl
  shr := fun r => by
    show (many one (rUpto m r).1.toNat (rUpto m r).2).2.s.size ≤ _ ∧ (_ → (many one (rUpto m r).1.toNat (rUpto m r).2).2.e = 0 → (many one (rUpto m r).1.toNat (rUpto m r).2).2.s.size < _)
    obtain ⟨a, b⟩ := rUpto_shr hm.2 r
    have c := (many_len h (rUpto m r).1.toNat (rUpto m r).2).2
    refine ⟨by omega, fun hr he => ?_⟩
    have h1 : (rUpto m r).2.e = 0 := by
      cases hd : decide ((rUpto m r).2.e = 0) with
      | true => exact of_decide_eq_true hd
      | false => rw [many_bad (of_decide_eq_false hd)] at he; exact he
    have := b hr h1
    omega
  fwd := fun l r rest hx hr hs => by
    obtain ⟨r1, e1, f1, s1⟩ := rUpto_fwd (m := m) (u := (l.length : Int)) hr (by omega) hx.1 hm.2 (rest := l.flatMap enc ++ rest) (by rw [hs]; unfold listL; rw [List.append_assoc])
    obtain ⟨r2, e2, f2, s2⟩ := many_fwd h l r1 rest hx.2 f1 s1
    refine ⟨r2, ?_, f2, s2⟩
    unfold listR
    rw [e1]
    simp only [Int.toNat_natCast]
    exact e2
  bwd := fun r hr he => by
    have he : (many one (rUpto m r).1.toNat (rUpto m r).2).2.e = 0 := he
    have h1 : (rUpto m r).2.e = 0 := by
      cases hd : decide ((rUpto m r).2.e = 0) with
      | true => exact of_decide_eq_true hd
      | false => rw [many_bad (of_decide_eq_false hd)] at he; exact he
    obtain ⟨a, b, c⟩ := rUpto_back hr h1
    obtain ⟨d, e, f⟩ := many_back h _ _ he
    refine ⟨?_, ?_, f⟩
    · show sB r.s = listL enc (many one (rUpto m r).1.toNat (rUpto m r).2).1 ++ sB (many one (rUpto m r).1.toNat (rUpto m r).2).2.s
      unfold listL
      rw [d, Int.toNat_of_nonneg b, List.append_assoc, ← e, ← a]
    · show ((many one (rUpto m r).1.toNat (rUpto m r).2).1.length : Int) ≤ m
      rw [d]; omega
end
def okI (n : Int) : Prop := -9223372036854775808 ≤ n ∧ n ≤ 9223372036854775807
theorem intR : Rdr rInt intL okI where
  bad := fun r hr => by rw [rInt_bad hr]
  shr := rInt_size
  fwd := fun x r rest hx hr hs => rInt_fwd hr hx.1 hx.2 hs
  bwd := fun r hr he => ⟨rInt_back hr he, rInt_rng r⟩
theorem rMany_many : ∀ (n : Nat) (r : RD), rMany n r = many rInt n r
  | 0, r => rfl
  | n + 1, r => by
    unfold rMany many
    split
    · rfl
    · rw [rMany_many n]
/-- a loop that reads one thing behind the other -/
theorem Loop_many {S' R α : Type} {step : S' → Option (S' ⊕ R)} {one : RD → α × RD} {enc : α → List Int} {ok : α → Prop} (h : Rdr one enc ok) (emb : Int → RD → List α → S') (fin : RD → List α → R) (n : Int) (hn : n ≤ 9223372036854775807) (B : Nat) (hB : B ≤ 1000000)
    (h1 : ∀ (i : Nat) (r : RD) (out : List α), (i : Int) < n → r.e = 0 → out.length = i → i + r.s.size ≤ B → step (emb (i : Int) r out) = some (.inl (emb ((i + 1 : Nat) : Int) (one r).2 (out ++ [(one r).1]))))
    (h2 : ∀ (i : Nat) (r : RD) (out : List α), (n ≤ i ∨ r.e ≠ 0) → out.length = i → i ≤ B + 1 → r.s.size ≤ B → step (emb (i : Int) r out) = some (.inr (fin r out))) :
    ∀ r : RD, r.s.size ≤ B → Loop step (emb 0 r []) = some (fin (many one n.toNat r).2 (many one n.toNat r).1) := by
  have key : ∀ (d : Nat) (i : Nat) (r : RD) (out : List α), (i : Int) + d = n → out.length = i → i + r.s.size ≤ B → Loop step (emb (i : Int) r out) = some (fin (many one d r).2 (out ++ (many one d r).1)) := by
    intro d
    induction d with
    | zero =>
      intro i r out hi ho hb
      rw [Loop_inr (h2 i r out (.inl (by omega)) ho (by omega) (by omega))]
      simp [many]
    | succ d ih =>
      intro i r out hi ho hb
      by_cases he : r.e = 0
      · rw [Loop_inl (h1 i r out (by omega) he ho hb), many_good he]
        obtain ⟨a, b⟩ := h.shr r
        by_cases he2 : (one r).2.e = 0
        · have := b he he2
          rw [ih (i + 1) (one r).2 (out ++ [(one r).1]) (by omega) (by simp [ho]) (by omega)]
          simp
        · rw [many_bad he2, Loop_inr (h2 (i + 1) (one r).2 (out ++ [(one r).1]) (.inr he2) (by simp [ho]) (by omega) (by omega))]
      · rw [many_bad he, Loop_inr (h2 i r out (.inr he) ho (by omega) (by omega)), List.append_nil]
  intro r hr
  by_cases hn0 : 0 ≤ n
  · have := key n.toNat 0 r [] (by omega) rfl (by omega)
    rw [List.nil_append] at this
    exact this
  · have e : n.toNat = 0 := by omega
    rw [e]
    exact Loop_inr (h2 0 r [] (.inl (by omega)) rfl (by omega) hr)
end Go.Ab
end
section
/- Events: checks, places, bytes. -/
namespace Go.Ab
set_option linter.unusedVariables false
abbrev Ev := T_api_Event
def badE (x : Ev × Nat) : Bool := decide (x.1.Kind < 1) || (decide (3 < x.1.Kind) || (decide (x.1.N < 0) || ((x.2 : Int) == 0 && !(x.1.Kind == 1))))
/-- a loop that seeks the first place where p holds -/
theorem Loop_seek {α R : Type} (l : List α) (hl : l.length < 9223372036854775808) (p : α → Bool) (found : Nat → R) (no : R) {step : Int → Option (Int ⊕ R)}
    (h1 : ∀ k (h : k < l.length), step (k : Int) = if p l[k] = true then some (.inr (found k)) else some (.inl (w64 (k + 1)))) (h2 : step (l.length : Int) = some (.inr no)) :
    Loop step 0 = some (match l.findIdx? p with | some k => found k | none => no) := by
  cases e : l.findIdx? p with
  | none =>
    rw [List.findIdx?_eq_none_iff] at e
    refine Loop_nat (fun k => (k : Int)) l.length (fun k hk => ?_) h2
    rw [h1 k hk, if_neg (by rw [e _ (List.getElem_mem hk)]; decide), w64i (by omega) (by omega)]
    rfl
  | some n =>
    rw [List.findIdx?_eq_some_iff_getElem] at e
    obtain ⟨hn, e1, e2⟩ := e
    refine Loop_nat (fun k => (k : Int)) n (fun k hk => ?_) ?_
    · rw [h1 k (by omega), if_neg (by simpa using e2 k hk), w64i (by omega) (by omega)]
      rfl
    · rw [h1 n hn, if_pos e1]
def chk (l : List Ev) : Int × Int := match l.zipIdx.findIdx? badE with | some k => ((k : Int), 3) | none => (0, 0)
theorem check_eq (l : List Ev) (hl : l.length ≤ 65536) : F_event_Check l = some (chk l) := by
  unfold F_event_Check
  rw [dcf (by omega), cond_false]
  have e := Loop_seek (step := fun s : Int => F_event_Check_L2 l s) l.zipIdx (by rw [List.length_zipIdx]; omega) badE (fun k => ((k : Int), (3 : Int))) (0, 0) (fun k hk => ?_) ?_
  · rw [e]; unfold chk; cases l.zipIdx.findIdx? badE <;> rfl
  · rw [List.length_zipIdx] at hk
    show F_event_Check_L2 l (k : Int) = _
    unfold F_event_Check_L2 F_event_Check_J1 badE
    rw [dct (by omega), lAt_lt hk]
    simp only [cond_true, Option.bind_some, List.getElem_zipIdx, Nat.zero_add, bne]
    cases decide (l[k].Kind < 1) <;> cases decide (3 < l[k].Kind) <;> cases decide (l[k].N < 0) <;> cases ((k : Int) == 0) <;> cases (l[k].Kind == 1) <;> rfl
  · show F_event_Check_L2 l (l.zipIdx.length : Int) = _
    unfold F_event_Check_L2
    rw [List.length_zipIdx, dcf (by omega)]; rfl
theorem rcheck_eq (l : List Ev) (hl : l.length ≤ 65536) : F_retraceref31_Check l = some [(chk l).1, (chk l).2] := by
  unfold F_retraceref31_Check
  rw [dcf (by omega), cond_false]
  have e := Loop_seek (step := fun s : Int => F_retraceref31_Check_L2 l s) l.zipIdx (by rw [List.length_zipIdx]; omega) badE (fun k => [(k : Int), (3 : Int)]) [0, 0] (fun k hk => ?_) ?_
  · rw [e]; unfold chk; cases l.zipIdx.findIdx? badE <;> rfl
  · rw [List.length_zipIdx] at hk
    show F_retraceref31_Check_L2 l (k : Int) = _
    unfold F_retraceref31_Check_L2 F_retraceref31_Check_J1 badE
    rw [dct (by omega), lAt_lt hk]
    have g1 : ∀ (x : Int), (grd (([x, 3] : List Int).length = 2 ∧ (List.replicate 2 (0 : Int)).length = 2) <| (grd (([x, 3] : List Int).length = 2) <| some ([x, 3] : List Int)).map (Sum.inr : List Int → Int ⊕ List Int)) = some (.inr [x, 3]) := fun x => by
      rw [grd_t ⟨rfl, by simp⟩, grd_t (by simp)]; rfl
    simp only [cond_true, Option.bind_some, List.getElem_zipIdx, Nat.zero_add, bne, g1]
    cases decide (l[k].Kind < 1) <;> cases decide (3 < l[k].Kind) <;> cases decide (l[k].N < 0) <;> cases ((k : Int) == 0) <;> cases (l[k].Kind == 1) <;> rfl
  · show F_retraceref31_Check_L2 l (l.zipIdx.length : Int) = _
    unfold F_retraceref31_Check_L2
    rw [List.length_zipIdx, dcf (by omega), cond_false, grd_t ⟨rfl, by simp⟩, grd_t (by simp)]; rfl
/-- where steps begin -/
def bgI : List Ev → Int → List Int
  | [], _ => []
  | x :: l, i => (if x.Kind = 1 then [i] else []) ++ bgI l (i + 1)
def bg (l : List Ev) : List Int := bgI l 0
theorem bgI_app : ∀ (a b : List Ev) (i : Int), bgI (a ++ b) i = bgI a i ++ bgI b (i + a.length)
  | [], b, i => by simp [bgI]
  | x :: a, b, i => by
    rw [List.cons_append, bgI, bgI, bgI_app a b (i + 1), List.append_assoc, List.length_cons, show i + 1 + (a.length : Int) = i + ((a.length + 1 : Nat) : Int) by omega]
theorem bgI_len : ∀ (l : List Ev) (i : Int), (bgI l i).length ≤ l.length
  | [], i => Nat.le_refl _
  | x :: l, i => by
    have := bgI_len l (i + 1)
    rw [bgI, List.length_append, List.length_cons]
    split <;> simp <;> omega
theorem bg_snoc {l : List Ev} {k : Nat} (hk : k < l.length) : bg (l.take (k + 1)) = bg (l.take k) ++ (if l[k].Kind = 1 then [(k : Int)] else []) := by
  unfold bg
  rw [take_snoc hk, bgI_app, List.length_take, Nat.min_eq_left (by omega)]
  simp [bgI]
theorem begins_eq (l : List Ev) (hl : l.length ≤ 100000) : F_retraceref31_Begins l = some (bg l) := by
  unfold F_retraceref31_Begins
  have e := Loop_nat (step := fun s : (Int × (List Int)) => F_retraceref31_Begins_L2 l s.1 s.2) (fun k => ((k : Int), bg (l.take k))) l.length (r := bg l) (fun k hk => ?_) ?_
  · exact e
  · show F_retraceref31_Begins_L2 l (k : Int) (bg (l.take k)) = _
    have hb := bgI_len (l.take k) 0
    rw [List.length_take] at hb
    have hb2 : (bg (l.take k)).length ≤ k := by unfold bg; omega
    unfold F_retraceref31_Begins_L2 F_retraceref31_Begins_J1
    rw [dct (by omega), lAt_lt hk, bg_snoc hk, w64s (by omega)]
    simp only [cond_true, Option.bind_some]
    by_cases h : l[k].Kind = 1
    · rw [beqt h, if_pos h, cond_true, grd_t (by simp only [List.length_cons, List.length_nil]; omega)]
    · rw [beqf h, if_neg h, cond_false, List.append_nil]
  · show F_retraceref31_Begins_L2 l (l.length : Int) (bg (l.take l.length)) = _
    unfold F_retraceref31_Begins_L2
    rw [dcf (by omega), List.take_length]; rfl
def beginV (l : List Ev) (n : Int) : Int := if n < 0 then -1 else ((bg l ++ [(l.length : Int)])[n.toNat]?).getD (-1)
theorem rbegin_eq (l : List Ev) (n : Int) (hl : l.length ≤ 100000) : F_retraceref31_Begin l n = some (beginV l n) := by
  have hb := bgI_len l 0
  unfold F_retraceref31_Begin F_retraceref31_Begin_J1 beginV
  rw [begins_eq l hl]
  simp only [Option.bind_some]
  have hb2 : (bg l).length ≤ l.length := hb
  rw [grd_t (by simp only [List.length_cons, List.length_nil]; omega)]
  by_cases h : n < 0
  · rw [dct h, if_pos h]; rfl
  rw [dcf h, if_neg h, cond_false]
  by_cases h2 : ((bg l ++ [(l.length : Int)]).length : Int) ≤ n
  · rw [dct h2, List.getElem?_eq_none (by omega)]; rfl
  · rw [dcf h2, cond_false]
    unfold lAt
    rw [if_pos (by omega), List.getElem?_eq_getElem (by omega)]
    rfl
def seekG (s : Int) (x : Ev × Nat) : Int ⊕ ((Int × Int) ⊕ Int) := if x.1.Kind = 1 then (if s = 0 then .inr (.inl (0, (x.2 : Int))) else .inl (s - 1)) else .inl s
theorem seek_scan : ∀ (l : List Ev) (i : Nat) (s : Int), 0 ≤ s → scan seekG (fun s => (.inr s : (Int × Int) ⊕ Int)) (l.zipIdx i) s =
    match (bgI l (i : Int))[s.toNat]? with | some v => .inl (0, v) | none => .inr (s - (bgI l (i : Int)).length)
  | [], i, s, h => by simp [scan, bgI]
  | x :: l, i, s, h => by
    have ih := seek_scan l (i + 1)
    rw [show (((i + 1 : Nat)) : Int) = (i : Int) + 1 by omega] at ih
    rw [List.zipIdx_cons, scan, bgI]
    unfold seekG
    by_cases hk : x.Kind = 1
    · rw [if_pos hk, if_pos hk]
      by_cases h0 : s = 0
      · rw [if_pos h0, h0]; rfl
      · rw [if_neg h0]
        have := ih (s - 1) (by omega)
        unfold seekG at this
        simp only
        rw [this, show s.toNat = (s - 1).toNat + 1 by omega]
        simp only [List.cons_append, List.nil_append, List.getElem?_cons_succ, List.length_cons]
        split
        · rfl
        · congr 1; omega
    · rw [if_neg hk, if_neg hk]
      have := ih s h
      unfold seekG at this
      simp only [List.nil_append]
      exact this
theorem begin_eq (l : List Ev) (n : Int) (hl : l.length ≤ 100000) (hn : n ≤ 9223372036854775807) : F_event_Begin l n = some (beginV l n) := by
  unfold F_event_Begin beginV
  by_cases h : n < 0
  · rw [dct h, if_pos h]; rfl
  rw [dcf h, if_neg h, cond_false]
  unfold F_event_begins F_event_begins_1
  simp only [Option.bind_some]
  have e := Loop_scan (step := fun s : (Int × Int) => F_event_begins_1_L3 0 l s.1 s.2) l.zipIdx (by rw [List.length_zipIdx]; omega) seekG (fun s => (.inr s : (Int × Int) ⊕ Int)) (fun s i => (i, s)) (fun _ s => 0 ≤ s ∧ s ≤ n) (fun k hk s hs => ?_) (fun k hk s s' hs e => ?_) (fun s _ => ?_) n ⟨by omega, Int.le_refl _⟩
  · rw [e]
    simp only [Option.bind_some]
    rw [seek_scan l 0 n (by omega)]
    have hz : bgI l ((0 : Nat) : Int) = bg l := rfl
    rw [hz]
    by_cases hb : n.toNat < (bg l).length
    · rw [List.getElem?_append_left hb, List.getElem?_eq_getElem hb]; rfl
    · rw [List.getElem?_eq_none (by omega)]
      simp only [Sum.elim_inr]
      by_cases hq : n.toNat = (bg l).length
      · rw [beqt (show n - ((bg l).length : Int) = 0 by omega), List.getElem?_append_right (by omega), hq, Nat.sub_self]; rfl
      · rw [beqf (show ¬ n - ((bg l).length : Int) = 0 by omega), List.getElem?_append_right (by omega), List.getElem?_eq_none (by simp only [List.length_cons, List.length_nil]; omega)]; rfl
  · rw [List.length_zipIdx] at hk
    show F_event_begins_1_L3 0 l (k : Int) s = _
    unfold F_event_begins_1_L3 F_event_begins_1_J1 F_event_begins_1_J2 F_R_event_Begin_0 seekG
    rw [dct (by omega), lAt_lt hk]
    simp only [cond_true, Option.bind_some, List.getElem_zipIdx, Nat.zero_add]
    by_cases hk1 : l[k].Kind = 1
    · rw [beqt hk1, if_pos hk1, cond_true]
      by_cases h0 : s = 0
      · rw [beqt h0, if_pos h0, h0]; rfl
      · rw [beqf h0, if_neg h0, w64i (n := s - 1) (by omega) (by omega)]; rfl
    · rw [beqf hk1, if_neg hk1]; rfl
  · unfold seekG at e
    split at e
    · split at e
      · cases e
      · cases e; omega
    · cases e; exact hs
  · show F_event_begins_1_L3 0 l (l.zipIdx.length : Int) s = _
    unfold F_event_begins_1_L3
    rw [List.length_zipIdx, dcf (by omega)]; rfl
end Go.Ab
end
section
/- Events' bytes, there and back. -/
namespace Go.Ab
set_option linter.unusedVariables false
def evL (x : Ev) : List Int := intL x.Kind ++ intL x.N
def evsL (l : List Ev) : List Int := numL l.length ++ l.flatMap evL
def evMany : Nat → RD → List Ev × RD
  | 0, r => ([], r)
  | n + 1, r => if r.e ≠ 0 then ([], r) else (⟨(rInt r).1, (rInt (rInt r).2).1⟩ :: (evMany n (rInt (rInt r).2).2).1, (evMany n (rInt (rInt r).2).2).2)
theorem evMany_bad {r : RD} (h : r.e ≠ 0) (n : Nat) : evMany n r = ([], r) := by
  cases n with
  | zero => rfl
  | succ n => exact if_pos h
theorem evMany_len : ∀ (n : Nat) (r : RD), (evMany n r).1.length ≤ r.s.size + 1 ∧ (evMany n r).2.s.size ≤ r.s.size
  | 0, r => ⟨Nat.zero_le _, Nat.le_refl _⟩
  | n + 1, r => by
    unfold evMany
    split
    · exact ⟨Nat.zero_le _, Nat.le_refl _⟩
    · rename_i h
      have h1 := rInt_size r
      have h1' := rInt_size (rInt r).2
      obtain ⟨h2, h3⟩ := evMany_len n (rInt (rInt r).2).2
      by_cases he : (rInt (rInt r).2).2.e = 0
      · have he1 : (rInt r).2.e = 0 := by
          cases hd : decide ((rInt r).2.e = 0) with
          | true => exact of_decide_eq_true hd
          | false => rw [rInt_bad (of_decide_eq_false hd)] at he; exact he
        have := h1.2 (by simpa using h) he1
        exact ⟨by simp only [List.length_cons]; omega, by show (evMany n (rInt (rInt r).2).2).2.s.size ≤ _; omega⟩
      · rw [evMany_bad he]
        exact ⟨by simp, by show (rInt (rInt r).2).2.s.size ≤ _; omega⟩
def getEv (s : ByteArray) : List Ev × Int :=
  if endV (evMany (rUpto 65536 ⟨s, 0⟩).1.toNat (rUpto 65536 ⟨s, 0⟩).2).2 ≠ 0 then ([], endV (evMany (rUpto 65536 ⟨s, 0⟩).1.toNat (rUpto 65536 ⟨s, 0⟩).2).2)
  else if (chk (evMany (rUpto 65536 ⟨s, 0⟩).1.toNat (rUpto 65536 ⟨s, 0⟩).2).1).2 ≠ 0 then ([], (chk (evMany (rUpto 65536 ⟨s, 0⟩).1.toNat (rUpto 65536 ⟨s, 0⟩).2).1).2)
  else ((evMany (rUpto 65536 ⟨s, 0⟩).1.toNat (rUpto 65536 ⟨s, 0⟩).2).1, 0)
theorem get_prog (y : Int × RD) (R : List Ev × Int) : ∀ (n : Nat) (r : RD) (out : List Ev), (out.length : Int) + n = y.1 → out.length + r.s.size ≤ 20000 → out.length ≤ 30000 → r.s.size ≤ 20000 →
    R = (if endV (evMany n r).2 ≠ 0 then ([], endV (evMany n r).2) else if (chk (out ++ (evMany n r).1)).2 ≠ 0 then ([], (chk (out ++ (evMany n r).1)).2) else (out ++ (evMany n r).1, 0)) →
    Loop (fun s : (ByteArray × Int × (List Ev)) => F_event_Get_L2 y s.1 s.2.1 s.2.2) (r.s, r.e, out) = some R := by
  have fin : ∀ (r : RD) (out : List Ev), out.length ≤ 40000 → F_event_Get_J1 r.s r.e out false = some (.inr (if endV r ≠ 0 then ([], endV r) else if (chk out).2 ≠ 0 then ([], (chk out).2) else (out, 0))) := by
    intro r out ho
    unfold F_event_Get_J1
    have he : F_wire_Reader_End ⟨r.s, r.e⟩ = some (endV r) := F_rEnd r
    rw [cond_false, he, check_eq out (by omega)]
    simp only [Option.bind_some, bne]
    by_cases h : endV r = 0
    · rw [beqt h, if_neg (fun q => q h)]
      by_cases h2 : (chk out).2 = 0
      · rw [beqt h2, if_neg (fun q => q h2)]; rfl
      · rw [beqf h2, if_pos h2]; rfl
    · rw [beqf h, if_pos h]; rfl
  intro n
  induction n with
  | zero =>
    intro r out hn hb hb2 hb3 hR
    refine Loop_inr ?_
    show F_event_Get_L2 y r.s r.e out = _
    unfold F_event_Get_L2
    rw [dcf (by omega), cond_false, fin r out (by omega), hR]
    simp [evMany]
  | succ n ih =>
    intro r out hn hb hb2 hb3 hR
    by_cases he : r.e = 0
    · have hs := rInt_size r
      have hs2 := rInt_size (rInt r).2
      have step : F_event_Get_L2 y r.s r.e out = some (.inl ((rInt (rInt r).2).2.s, (rInt (rInt r).2).2.e, out ++ [⟨(rInt r).1, (rInt (rInt r).2).1⟩])) := by
        unfold F_event_Get_L2 F_wire_Reader_Err F_event_Get_J1
        rw [dct (by omega), cond_true]
        simp only [Option.bind_some]
        rw [beqt he, cond_true, F_rInt ⟨r.s, r.e⟩ (by show r.s.size ≤ _; omega)]
        simp only [Option.bind_some]
        rw [F_rInt (rInt r).2 (by omega)]
        simp only [Option.bind_some]
        rw [grd_t (by simp only [List.length_cons, List.length_nil]; omega)]
      rw [Loop_inl (step := fun s : (ByteArray × Int × (List Ev)) => F_event_Get_L2 y s.1 s.2.1 s.2.2) (s := (r.s, r.e, out)) step]
      have e : evMany (n + 1) r = (⟨(rInt r).1, (rInt (rInt r).2).1⟩ :: (evMany n (rInt (rInt r).2).2).1, (evMany n (rInt (rInt r).2).2).2) := if_neg (by simpa using he)
      rw [e] at hR
      by_cases he2 : (rInt (rInt r).2).2.e = 0
      · have he1 : (rInt r).2.e = 0 := by
          cases hd : decide ((rInt r).2.e = 0) with
          | true => exact of_decide_eq_true hd
          | false => rw [rInt_bad (of_decide_eq_false hd)] at he2; exact he2
        have hlt := hs.2 he he1
        refine ih (rInt (rInt r).2).2 (out ++ [⟨(rInt r).1, (rInt (rInt r).2).1⟩]) (by simp; omega) (by simp; omega) (by simp; omega) (by omega) ?_
        rw [hR, List.append_assoc]; rfl
      · rw [evMany_bad he2] at hR
        refine Loop_inr ?_
        show F_event_Get_L2 y (rInt (rInt r).2).2.s (rInt (rInt r).2).2.e (out ++ [⟨(rInt r).1, (rInt (rInt r).2).1⟩]) = _
        unfold F_event_Get_L2 F_wire_Reader_Err
        simp only [Option.bind_some]
        rw [beqf he2, fin _ _ (by simp; omega), hR]
        cases decide (((out ++ [(⟨(rInt r).1, (rInt (rInt r).2).1⟩ : Ev)]).length : Int) < y.1) <;> rfl
    · rw [evMany_bad he] at hR
      refine Loop_inr ?_
      show F_event_Get_L2 y r.s r.e out = _
      unfold F_event_Get_L2 F_wire_Reader_Err
      simp only [Option.bind_some]
      rw [beqf he, fin _ _ (by omega), hR, List.append_nil]
      cases decide ((out.length : Int) < y.1) <;> rfl
theorem get_ref (y : Int × T_retraceref03_Reader) (R : T_retraceref31_Got) : ∀ (n : Nat) (r : RD) (out : List Ev), (out.length : Int) + n = y.1 → out.length + r.s.size ≤ 20000 → out.length ≤ 30000 → r.s.size ≤ 20000 →
    R = (if endV (evMany n r).2 ≠ 0 then ⟨[], endV (evMany n r).2⟩ else if (chk (out ++ (evMany n r).1)).2 ≠ 0 then ⟨[], (chk (out ++ (evMany n r).1)).2⟩ else ⟨out ++ (evMany n r).1, 0⟩) →
    Loop (fun s : (Int × ByteArray × Int × (List Ev)) => F_retraceref31_Get_L2 y s.1 s.2.1 s.2.2.1 s.2.2.2) ((out.length : Int), r.s, r.e, out) = some R := by
  have fin : ∀ (i : Int) (r : RD) (out : List Ev), out.length ≤ 40000 → F_retraceref31_Get_J1 i r.s r.e out false = some (.inr (if endV r ≠ 0 then ⟨[], endV r⟩ else if (chk out).2 ≠ 0 then ⟨[], (chk out).2⟩ else ⟨out, 0⟩)) := by
    intro i r out ho
    unfold F_retraceref31_Get_J1
    have he : F_retraceref03_Reader_End ⟨r.s, r.e⟩ = some (endV r) := F_rEndR r
    rw [cond_false, he, rcheck_eq out (by omega)]
    simp only [Option.bind_some, bne]
    have a1 : ∀ a b : Int, aAt 2 [a, b] 1 = some b := fun _ _ => rfl
    by_cases h : endV r = 0
    · rw [beqt h, if_neg (fun q => q h), Bool.not_true, cond_false, grd_t ⟨rfl, by simp⟩]
      simp only [a1, Option.bind_some]
      by_cases h2 : (chk out).2 = 0
      · rw [beqt h2, if_neg (fun q => q h2)]; rfl
      · rw [beqf h2, if_pos h2]; rfl
    · rw [beqf h, if_pos h]; rfl
  have stop : ∀ (r : RD) (out : List Ev), r.e ≠ 0 → out.length ≤ 40000 → R = (if endV r ≠ 0 then ⟨[], endV r⟩ else if (chk out).2 ≠ 0 then ⟨[], (chk out).2⟩ else ⟨out, 0⟩) →
      Loop (fun s : (Int × ByteArray × Int × (List Ev)) => F_retraceref31_Get_L2 y s.1 s.2.1 s.2.2.1 s.2.2.2) ((out.length : Int), r.s, r.e, out) = some R := by
    intro r out he ho hR
    refine Loop_inr ?_
    show F_retraceref31_Get_L2 y (out.length : Int) r.s r.e out = _
    unfold F_retraceref31_Get_L2
    rw [beqf he, Bool.cond_self, fin (out.length : Int) r out ho, hR]
  intro n
  induction n with
  | zero =>
    intro r out hn hb hb2 hb3 hR
    refine Loop_inr ?_
    show F_retraceref31_Get_L2 y (out.length : Int) r.s r.e out = _
    unfold F_retraceref31_Get_L2
    rw [dcf (by omega), cond_false, fin _ r out (by omega), hR]
    simp [evMany]
  | succ n ih =>
    intro r out hn hb hb2 hb3 hR
    by_cases he : r.e = 0
    · have hs := rInt_size r
      have hs2 := rInt_size (rInt r).2
      have step : F_retraceref31_Get_L2 y (out.length : Int) r.s r.e out = some (.inl (((out ++ [(⟨(rInt r).1, (rInt (rInt r).2).1⟩ : Ev)]).length : Int), (rInt (rInt r).2).2.s, (rInt (rInt r).2).2.e, out ++ [⟨(rInt r).1, (rInt (rInt r).2).1⟩])) := by
        unfold F_retraceref31_Get_L2 F_retraceref31_Get_J1
        have h1 : F_retraceref03_Reader_Int ⟨r.s, r.e⟩ = some ((rInt r).1, rr (rInt r).2) := F_rIntR r (by omega)
        rw [dct (by omega), cond_true, beqt he, cond_true, h1]
        simp only [Option.bind_some]
        rw [F_rIntR (rInt r).2 (by omega)]
        simp only [Option.bind_some]
        rw [grd_t (by simp only [List.length_cons, List.length_nil]; omega), w64i (by omega) (by omega)]
        simp only [List.length_append, List.length_cons, List.length_nil]
        rfl
      rw [Loop_inl (step := fun s : (Int × ByteArray × Int × (List Ev)) => F_retraceref31_Get_L2 y s.1 s.2.1 s.2.2.1 s.2.2.2) (s := ((out.length : Int), r.s, r.e, out)) step]
      have e : evMany (n + 1) r = (⟨(rInt r).1, (rInt (rInt r).2).1⟩ :: (evMany n (rInt (rInt r).2).2).1, (evMany n (rInt (rInt r).2).2).2) := if_neg (by simpa using he)
      rw [e] at hR
      by_cases he2 : (rInt (rInt r).2).2.e = 0
      · have he1 : (rInt r).2.e = 0 := by
          cases hd : decide ((rInt r).2.e = 0) with
          | true => exact of_decide_eq_true hd
          | false => rw [rInt_bad (of_decide_eq_false hd)] at he2; exact he2
        have hlt := hs.2 he he1
        refine ih (rInt (rInt r).2).2 (out ++ [⟨(rInt r).1, (rInt (rInt r).2).1⟩]) (by simp; omega) (by simp; omega) (by simp; omega) (by omega) ?_
        rw [hR, List.append_assoc]; rfl
      · rw [evMany_bad he2] at hR
        exact stop (rInt (rInt r).2).2 (out ++ [⟨(rInt r).1, (rInt (rInt r).2).1⟩]) he2 (by simp; omega) hR
    · rw [evMany_bad he, List.append_nil] at hR
      exact stop r out he (by omega) hR
theorem get_eq (s : ByteArray) (hs : s.size ≤ 10000) : F_event_Get s = some (getEv s) ∧ F_retraceref31_Get s = some ⟨(getEv s).1, (getEv s).2⟩ := by
  obtain ⟨u1, u2, u3⟩ := rUpto_ok 65536 (by omega) ⟨s, 0⟩
  replace u3 : (rUpto 65536 ⟨s, 0⟩).2.s.size ≤ s.size := u3
  constructor
  · unfold F_event_Get F_wire_Open
    simp only [Option.bind_some]
    rw [F_rUpto 65536 (by omega) ⟨s, 0⟩ (by show s.size ≤ _; omega)]
    simp only [Option.bind_some]
    exact get_prog _ _ (rUpto 65536 ⟨s, 0⟩).1.toNat (rUpto 65536 ⟨s, 0⟩).2 [] (by simp; omega) (by simp; omega) (by simp) (by omega) rfl
  · unfold F_retraceref31_Get
    have e : F_retraceref03_Reader_Upto 65536 ⟨s, 0⟩ = some ((rUpto 65536 ⟨s, 0⟩).1, rr (rUpto 65536 ⟨s, 0⟩).2) := F_rUptoR 65536 (by omega) ⟨s, 0⟩ (by show s.size ≤ _; omega)
    rw [e]
    simp only [Option.bind_some]
    refine get_ref _ _ (rUpto 65536 ⟨s, 0⟩).1.toNat (rUpto 65536 ⟨s, 0⟩).2 [] (by simp; omega) (by simp; omega) (by simp) (by omega) ?_
    unfold getEv
    simp only [List.nil_append]
    split
    · rfl
    · split <;> rfl
theorem sameE_eq (a b : List Ev) (hl : a.length < 1000000000) (d : Bool) (hd : d = true ↔ a = b) : F_retraceref27_Same a b = some d := by
  unfold F_retraceref27_Same
  by_cases h : a.length = b.length
  · have : (((a.length : Int)) != ((b.length : Int))) = false := by simp; omega
    rw [this, cond_false]
    refine Loop_same a b h (fun x y => ((x.Kind == y.Kind) && ((x.N == y.N) && true))) (fun x y => ?_) (by omega) (fun k x y hx hy => ?_) ?_ d hd
    · cases x; cases y; simp
    · have hk := (List.getElem?_eq_some_iff.mp hx).1
      show F_retraceref27_Same_L1 a b (k : Int) = _
      unfold F_retraceref27_Same_L1
      rw [lAtn, lAtn, hx, hy, dct (by omega), cond_true]
      simp only [Option.bind_some]
      cases ((x.Kind == y.Kind) && ((x.N == y.N) && true)) <;> rfl
    · show F_retraceref27_Same_L1 a b (a.length : Int) = _
      unfold F_retraceref27_Same_L1
      simp
  · have : (((a.length : Int)) != ((b.length : Int))) = true := by simp; omega
    rw [this, cond_true]
    cases d with
    | false => rfl
    | true => have := hd.1 rfl; subst this; exact absurd rfl h
def okEvs (l : List Ev) : Prop := ∀ x ∈ l, (-9223372036854775808 ≤ x.Kind ∧ x.Kind ≤ 9223372036854775807) ∧ (-9223372036854775808 ≤ x.N ∧ x.N ≤ 9223372036854775807)
theorem evL_len (x : Ev) : (evL x).length ≤ 20 := by
  have := intL_len x.Kind
  have := intL_len x.N
  unfold evL; rw [List.length_append]; omega
theorem evs_flat (l : List Ev) : (l.flatMap evL).length ≤ 20 * l.length := by
  induction l with
  | nil => simp
  | cons a l ih =>
    have := evL_len a
    simp only [List.flatMap_cons, List.length_append, List.length_cons]; omega
theorem evMany_back : ∀ (n : Nat) (r : RD), (evMany n r).2.e = 0 → (evMany n r).1.length = n ∧ sB r.s = (evMany n r).1.flatMap evL ++ sB (evMany n r).2.s ∧ okEvs (evMany n r).1
  | 0, r, h => ⟨rfl, by simp [evMany], by intro x hx; cases hx⟩
  | n + 1, r, h => by
    by_cases he : r.e = 0
    · have e : evMany (n + 1) r = (⟨(rInt r).1, (rInt (rInt r).2).1⟩ :: (evMany n (rInt (rInt r).2).2).1, (evMany n (rInt (rInt r).2).2).2) := if_neg (by simpa using he)
      rw [e] at h ⊢
      replace h : (evMany n (rInt (rInt r).2).2).2.e = 0 := h
      have he2 : (rInt (rInt r).2).2.e = 0 := by
        cases hd : decide ((rInt (rInt r).2).2.e = 0) with
        | true => exact of_decide_eq_true hd
        | false => rw [evMany_bad (of_decide_eq_false hd)] at h; exact h
      have he1 : (rInt r).2.e = 0 := by
        cases hd : decide ((rInt r).2.e = 0) with
        | true => exact of_decide_eq_true hd
        | false => rw [rInt_bad (of_decide_eq_false hd)] at he2; exact he2
      obtain ⟨i1, i2, i3⟩ := evMany_back n _ h
      refine ⟨by simp [i1], ?_, ?_⟩
      · rw [rInt_back he he1, rInt_back he1 he2, i2]
        simp [evL]
      · intro x hx
        rcases List.mem_cons.1 hx with hx | hx
        · rw [hx]; exact ⟨rInt_rng r, rInt_rng _⟩
        · exact i3 x hx
    · rw [evMany_bad he] at h; exact absurd h he
theorem chk_cases (l : List Ev) : chk l = (0, 0) ∨ (chk l).2 = 3 := by
  unfold chk
  split
  · exact .inr rfl
  · exact .inl rfl
theorem right_eq (l : List Ev) (hl : l.length ≤ 65536) : F_retraceref31_Right l = some (decide ((chk l).2 = 0)) := by
  unfold F_retraceref31_Right
  rw [rcheck_eq l hl]
  simp only [Option.bind_some]
  rw [grd_t ⟨rfl, rfl⟩]
  rcases chk_cases l with h | h
  · rw [h]; rfl
  · rw [dcf (by omega)]
    have : ¬ (chk l).2 = 0 := by omega
    simp [this]
end Go.Ab
end
section
/- Where steps begin, one behind the other. -/
namespace Go.Ab
set_option linter.unusedVariables false
theorem bgI_pw : ∀ (l : List Ev) (i : Int), (bgI l i ++ [i + (l.length : Int)]).Pairwise (· < ·) ∧ ∀ x ∈ bgI l i, i ≤ x ∧ x < i + (l.length : Int)
  | [], i => by simp [bgI]
  | x :: l, i => by
    obtain ⟨h1, h2⟩ := bgI_pw l (i + 1)
    have e : i + 1 + (l.length : Int) = i + ((x :: l).length : Int) := by simp only [List.length_cons]; omega
    rw [e] at h1 h2
    rw [bgI]
    split
    · refine ⟨?_, ?_⟩
      · rw [List.singleton_append, List.cons_append, List.pairwise_cons]
        refine ⟨fun y hy => ?_, h1⟩
        rcases List.mem_append.1 hy with q | q
        · have := (h2 y q).1; omega
        · rw [List.mem_singleton.1 q]; simp only [List.length_cons]; omega
      · intro y hy
        rcases List.mem_append.1 hy with q | q
        · rw [List.mem_singleton.1 q]; simp only [List.length_cons]; omega
        · have := h2 y q; omega
    · rw [List.nil_append]
      exact ⟨h1, fun y hy => by have := h2 y hy; omega⟩
theorem beginV_get {l : List Ev} {n : Int} (h : 0 ≤ beginV l n) : 0 ≤ n ∧ ∃ hn : n.toNat < (bg l ++ [(l.length : Int)]).length, beginV l n = (bg l ++ [(l.length : Int)])[n.toNat] := by
  unfold beginV at h ⊢
  split at h
  · omega
  · rename_i h0
    rw [if_neg h0]
    refine ⟨by omega, ?_⟩
    cases hq : (bg l ++ [(l.length : Int)])[n.toNat]? with
    | none => rw [hq] at h; simp at h
    | some y =>
      obtain ⟨hn, e⟩ := List.getElem?_eq_some_iff.1 hq
      exact ⟨hn, by rw [e]; rfl⟩
theorem begin_le {l : List Ev} {n : Int} (h : 0 ≤ beginV l n) : beginV l n ≤ l.length := by
  obtain ⟨_, hn, e⟩ := beginV_get h
  rw [e]
  have hm := List.getElem_mem hn
  rcases List.mem_append.1 hm with q | q
  · have := (bgI_pw l 0).2 _ q; omega
  · have := List.mem_singleton.1 q; omega
theorem begin_mono {l : List Ev} {n m : Int} (h : n ≤ m) (ha : 0 ≤ beginV l n) (hb : 0 ≤ beginV l m) : beginV l n ≤ beginV l m := by
  obtain ⟨a0, an, ae⟩ := beginV_get ha
  obtain ⟨b0, bn, be⟩ := beginV_get hb
  by_cases hq : n = m
  · rw [hq]; exact Int.le_refl _
  · have hp := (bgI_pw l 0).1
    rw [Int.zero_add] at hp
    have := List.pairwise_iff_getElem.1 hp n.toNat m.toNat an bn (by omega)
    rw [ae, be]
    exact Int.le_of_lt this
end Go.Ab
end
section
namespace Go.Ab
set_option linter.unusedVariables false
theorem lt_getq {α : Type} {l : List α} {k : Nat} {x : α} (h : l[k]? = some x) : k < l.length := (List.getElem?_eq_some_iff.mp h).1
theorem sameI_eq (a b : List Int) (hl : a.length < 1000000000) (d : Bool) (hd : d = true ↔ a = b) : F_retraceref03_Same a b = some d := by
  unfold F_retraceref03_Same
  by_cases h : a.length = b.length
  · have : (((a.length : Int)) != ((b.length : Int))) = false := by simp; omega
    rw [this, cond_false]
    refine Loop_same a b h (fun x y => (x == y)) (fun x y => by simp) (by omega) (fun k x y hx hy => ?_) ?_ d hd
    · have hk := lt_getq hx
      show F_retraceref03_Same_L1 a b (k : Int) = _
      unfold F_retraceref03_Same_L1
      rw [lAtn, lAtn, hx, hy, dct (by omega), cond_true]
      simp only [Option.bind_some, bne]
      cases (x == y) <;> rfl
    · show F_retraceref03_Same_L1 a b (a.length : Int) = _
      unfold F_retraceref03_Same_L1
      simp
  · have : (((a.length : Int)) != ((b.length : Int))) = true := by simp; omega
    rw [this, cond_true]
    cases d with
    | false => rfl
    | true => have := hd.1 rfl; subst this; exact absurd rfl h
theorem sameA_eq (a b : List T_api_Alt) (hl : a.length < 1000000000) (d : Bool) (hd : d = true ↔ a = b) : F_retraceref22_Alts a b = some d := by
  unfold F_retraceref22_Alts
  by_cases h : a.length = b.length
  · have : (((a.length : Int)) != ((b.length : Int))) = false := by simp; omega
    rw [this, cond_false]
    refine Loop_same a b h (fun x y => ((x.Kind == y.Kind) && ((x.Chan == y.Chan) && ((x.Val == y.Val) && ((x.Slot == y.Slot) && ((x.Goto == y.Goto) && true)))))) (fun x y => ?_) (by omega) (fun k x y hx hy => ?_) ?_ d hd
    · cases x; cases y; simp
    · have hk := lt_getq hx
      show F_retraceref22_Alts_L1 a b (k : Int) = _
      unfold F_retraceref22_Alts_L1
      rw [lAtn, lAtn, hx, hy, dct (by omega), cond_true]
      simp only [Option.bind_some]
      cases ((x.Kind == y.Kind) && ((x.Chan == y.Chan) && ((x.Val == y.Val) && ((x.Slot == y.Slot) && ((x.Goto == y.Goto) && true))))) <;> rfl
    · show F_retraceref22_Alts_L1 a b (a.length : Int) = _
      unfold F_retraceref22_Alts_L1
      simp
  · have : (((a.length : Int)) != ((b.length : Int))) = true := by simp; omega
    rw [this, cond_true]
    cases d with
    | false => rfl
    | true => have := hd.1 rfl; subst this; exact absurd rfl h
theorem sameP_eq (a b : T_api_Proc) (hv : a.Vars.length < 1000000000) (ha : a.Alts.length < 1000000000) (d : Bool) (hd : d = true ↔ a = b) : F_retraceref22_Same a b = some d := by
  have e1 := sameI_eq a.Vars b.Vars hv (decide (a.Vars = b.Vars)) (by simp)
  classical
  have e2 := sameA_eq a.Alts b.Alts ha (decide (a.Alts = b.Alts)) (by simp)
  have key : F_retraceref22_Same a b = some ((a.Def == b.Def) && ((a.At == b.At) && ((a.Fuel == b.Fuel) && ((a.Mode == b.Mode) && ((a.Chan == b.Chan) && ((a.Val == b.Val) && ((a.Slot == b.Slot) && ((a.Until == b.Until) && ((a.Since == b.Since) && (decide (a.Vars = b.Vars) && decide (a.Alts = b.Alts))))))))))) := by
    unfold F_retraceref22_Same F_retraceref22_Same_J1 F_retraceref22_Same_J2
    rw [e1, e2]
    simp only [bne, Option.bind_some]
    cases (a.Def == b.Def) with
    | false => rfl
    | true =>
    cases (a.At == b.At) with
    | false => rfl
    | true =>
    cases (a.Fuel == b.Fuel) with
    | false => rfl
    | true =>
    cases (a.Mode == b.Mode) with
    | false => rfl
    | true =>
    cases (a.Chan == b.Chan) with
    | false => rfl
    | true =>
    cases (a.Val == b.Val) with
    | false => rfl
    | true =>
    cases (a.Slot == b.Slot) <;> cases (a.Until == b.Until) <;> cases (a.Since == b.Since) <;> cases decide (a.Vars = b.Vars) <;> rfl
  rw [key]
  congr 1
  rw [Bool.eq_iff_iff, hd]
  cases a; cases b
  simp only [T_api_Proc.mk.injEq, Bool.and_eq_true, beq_iff_eq, decide_eq_true_eq]
  exact ⟨fun ⟨a1, a2, a3, a4, a5, a6, a7, a8, a9, b1, b2⟩ => ⟨a1, a2, b1, a3, a4, a5, a6, a7, a8, a9, b2⟩, fun ⟨a1, a2, b1, a3, a4, a5, a6, a7, a8, a9, b2⟩ => ⟨a1, a2, a3, a4, a5, a6, a7, a8, a9, b1, b2⟩⟩
theorem same_self (p : T_api_Proc) (hv : p.Vars.length < 1000000000) (ha : p.Alts.length < 1000000000) : F_retraceref22_Same p p = some true := sameP_eq p p hv ha true (by simp)

end Go.Ab
end
section
/- States' bytes: readers and writers. -/
namespace Go.Ab
set_option linter.unusedVariables false
abbrev Al := T_api_Alt
abbrev Pr := T_api_Proc
abbrev Stt := T_api_State
section
variable {α : Type} {one : RD → α × RD} {enc : α → List Int} {ok : α → Prop}
theorem Rdr.clip (h : Rdr one enc ok) (z : α) : Rdr (fun r => (if (one r).2.e ≠ 0 then z else (one r).1, (one r).2)) enc ok where
  bad := h.bad
  shr := h.shr
  fwd := fun x r rest hx hr hs => by
    obtain ⟨r1, e1, f1, s1⟩ := h.fwd x r rest hx hr hs
    exact ⟨r1, by rw [e1, if_neg (by simpa using f1)], f1, s1⟩
  bwd := fun r hr he => by
    have he : (one r).2.e = 0 := he
    obtain ⟨a, b⟩ := h.bwd r hr he
    simp only
    rw [if_neg (by simpa using he)]
    exact ⟨a, b⟩
end
def five : RD → (Int × Int × Int × Int × Int) × RD := pairR rInt (pairR rInt (pairR rInt (pairR rInt rInt)))
def seven : RD → (Int × Int × Int × Int × Int × Int × Int) × RD := pairR rInt (pairR rInt (pairR rInt (pairR rInt (pairR rInt (pairR rInt rInt)))))
theorem fiveR : Rdr five (fun x => intL x.1 ++ (intL x.2.1 ++ (intL x.2.2.1 ++ (intL x.2.2.2.1 ++ intL x.2.2.2.2)))) (fun x => okI x.1 ∧ okI x.2.1 ∧ okI x.2.2.1 ∧ okI x.2.2.2.1 ∧ okI x.2.2.2.2) := intR.pair (intR.pair (intR.pair (intR.pair intR)))
theorem sevenR : Rdr seven (fun x => intL x.1 ++ (intL x.2.1 ++ (intL x.2.2.1 ++ (intL x.2.2.2.1 ++ (intL x.2.2.2.2.1 ++ (intL x.2.2.2.2.2.1 ++ intL x.2.2.2.2.2.2))))))
    (fun x => okI x.1 ∧ okI x.2.1 ∧ okI x.2.2.1 ∧ okI x.2.2.2.1 ∧ okI x.2.2.2.2.1 ∧ okI x.2.2.2.2.2.1 ∧ okI x.2.2.2.2.2.2) := intR.pair (intR.pair (intR.pair (intR.pair (intR.pair (intR.pair intR)))))
def altOf (x : Int × Int × Int × Int × Int) : Al := ⟨x.1, x.2.1, x.2.2.1, x.2.2.2.1, x.2.2.2.2⟩
def altTo (a : Al) : Int × Int × Int × Int × Int := (a.Kind, a.Chan, a.Val, a.Slot, a.Goto)
def rAlt (r : RD) : Al × RD := (altOf (five r).1, (five r).2)
def altL (a : Al) : List Int := intL a.Kind ++ (intL a.Chan ++ (intL a.Val ++ (intL a.Slot ++ intL a.Goto)))
def okA (a : Al) : Prop := okI a.Kind ∧ okI a.Chan ∧ okI a.Val ∧ okI a.Slot ∧ okI a.Goto
theorem altR : Rdr rAlt altL okA := fiveR.iso altOf altTo (fun _ => rfl) (fun _ => rfl)
theorem intsR (m : Int) (hm : 0 ≤ m ∧ m ≤ 9223372036854775807) : Rdr (rInts m) intsL (fun l => (l.length : Int) ≤ m ∧ ∀ x ∈ l, okI x) := by
  have h := (intR.list m hm).clip []
  have e : rInts m = fun r => (if (listR m rInt r).2.e ≠ 0 then [] else (listR m rInt r).1, (listR m rInt r).2) := by
    funext r
    unfold rInts listR
    rw [rMany_many]
  rw [e]
  exact h
abbrev ProcT := (Int × Int) × List Int × (Int × Int × Int × Int × Int × Int × Int) × List Al
def procOf (x : ProcT) : Pr := ⟨x.1.1, x.1.2, x.2.1, x.2.2.1.1, x.2.2.1.2.1, x.2.2.1.2.2.1, x.2.2.1.2.2.2.1, x.2.2.1.2.2.2.2.1, x.2.2.1.2.2.2.2.2.1, x.2.2.1.2.2.2.2.2.2, x.2.2.2⟩
def procTo (p : Pr) : ProcT := ((p.Def, p.At), p.Vars, (p.Fuel, p.Mode, p.Chan, p.Val, p.Slot, p.Until, p.Since), p.Alts)
def procP : RD → ProcT × RD := pairR (pairR rInt rInt) (pairR (rInts 4096) (pairR seven (listR 4096 rAlt)))
def rProc (r : RD) : Pr × RD := (procOf (procP r).1, (procP r).2)
def procL (p : Pr) : List Int := (intL p.Def ++ intL p.At) ++ (intsL p.Vars ++ ((intL p.Fuel ++ (intL p.Mode ++ (intL p.Chan ++ (intL p.Val ++ (intL p.Slot ++ (intL p.Until ++ intL p.Since)))))) ++ listL altL p.Alts))
def okPr (p : Pr) : Prop := (okI p.Def ∧ okI p.At) ∧ ((p.Vars.length : Int) ≤ 4096 ∧ ∀ x ∈ p.Vars, okI x) ∧ (okI p.Fuel ∧ okI p.Mode ∧ okI p.Chan ∧ okI p.Val ∧ okI p.Slot ∧ okI p.Until ∧ okI p.Since) ∧ ((p.Alts.length : Int) ≤ 4096 ∧ ∀ a ∈ p.Alts, okA a)
theorem procR : Rdr rProc procL okPr := ((intR.pair intR).pair ((intsR 4096 (by omega)).pair (sevenR.pair (altR.list 4096 (by omega))))).iso procOf procTo (fun _ => rfl) (fun _ => rfl)
abbrev StT := (Int × Int × Int × Int × Int) × List Pr × List Int
def sttOf (x : StT) : Stt := ⟨x.1.1, x.1.2.1, x.1.2.2.1, x.1.2.2.2.1, x.1.2.2.2.2, x.2.1, x.2.2⟩
def stTo (s : Stt) : StT := ((s.Now, s.Since, s.Halt, s.Fault, s.Who), s.Procs, s.Out)
def stP : RD → StT × RD := pairR five (pairR (listR 4096 rProc) (rInts 1048576))
def noSt : Stt := ⟨0, 0, 0, 0, 0, [], []⟩
def rState (r : RD) : Stt × RD := (if (stP r).2.e ≠ 0 then noSt else sttOf (stP r).1, (stP r).2)
def stateL (s : Stt) : List Int := (intL s.Now ++ (intL s.Since ++ (intL s.Halt ++ (intL s.Fault ++ intL s.Who)))) ++ (listL procL s.Procs ++ intsL s.Out)
def okSt (s : Stt) : Prop := (okI s.Now ∧ okI s.Since ∧ okI s.Halt ∧ okI s.Fault ∧ okI s.Who) ∧ ((s.Procs.length : Int) ≤ 4096 ∧ ∀ p ∈ s.Procs, okPr p) ∧ ((s.Out.length : Int) ≤ 1048576 ∧ ∀ x ∈ s.Out, okI x)
theorem stateR : Rdr rState stateL okSt := ((fiveR.pair ((procR.list 4096 (by omega)).pair (intsR 1048576 (by omega)))).iso sttOf stTo (fun _ => rfl) (fun _ => rfl)).clip noSt
-- the program's readers
theorem F_into_st (r : RD) (hs : r.s.size ≤ 300000) (o : Stt) : F_dump_reader_into r o = some ((five r).2, ⟨(five r).1.1, (five r).1.2.1, (five r).1.2.2.1, (five r).1.2.2.2.1, (five r).1.2.2.2.2, o.Procs, o.Out⟩) := by
  have s1 := (rInt_size r).1
  have s2 := (rInt_size (rInt r).2).1
  have s3 := (rInt_size (rInt (rInt r).2).2).1
  have s4 := (rInt_size (rInt (rInt (rInt r).2).2).2).1
  unfold F_dump_reader_into
  rw [F_rInt r (by omega)]; simp only [Option.bind_some]
  rw [F_rInt _ (by omega)]; simp only [Option.bind_some]
  rw [F_rInt _ (by omega)]; simp only [Option.bind_some]
  rw [F_rInt _ (by omega)]; simp only [Option.bind_some]
  rw [F_rInt _ (by omega)]; rfl
theorem F_into_alt (r : RD) (hs : r.s.size ≤ 300000) (o : Al) : F_dump_reader_into_v4 r o = some ((rAlt r).2, (rAlt r).1) := by
  have s1 := (rInt_size r).1
  have s2 := (rInt_size (rInt r).2).1
  have s3 := (rInt_size (rInt (rInt r).2).2).1
  have s4 := (rInt_size (rInt (rInt (rInt r).2).2).2).1
  unfold F_dump_reader_into_v4
  rw [F_rInt r (by omega)]; simp only [Option.bind_some]
  rw [F_rInt _ (by omega)]; simp only [Option.bind_some]
  rw [F_rInt _ (by omega)]; simp only [Option.bind_some]
  rw [F_rInt _ (by omega)]; simp only [Option.bind_some]
  rw [F_rInt _ (by omega)]; rfl
theorem F_into_two (r : RD) (hs : r.s.size ≤ 300000) (o : Pr) : F_dump_reader_into_v2 r o = some ((pairR rInt rInt r).2, ⟨(pairR rInt rInt r).1.1, (pairR rInt rInt r).1.2, o.Vars, o.Fuel, o.Mode, o.Chan, o.Val, o.Slot, o.Until, o.Since, o.Alts⟩) := by
  have s1 := (rInt_size r).1
  unfold F_dump_reader_into_v2
  rw [F_rInt r (by omega)]; simp only [Option.bind_some]
  rw [F_rInt _ (by omega)]; rfl
theorem F_into_seven (r : RD) (hs : r.s.size ≤ 300000) (o : Pr) : F_dump_reader_into_v3 r o = some ((seven r).2, ⟨o.Def, o.At, o.Vars, (seven r).1.1, (seven r).1.2.1, (seven r).1.2.2.1, (seven r).1.2.2.2.1, (seven r).1.2.2.2.2.1, (seven r).1.2.2.2.2.2.1, (seven r).1.2.2.2.2.2.2, o.Alts⟩) := by
  have s1 := (rInt_size r).1
  have s2 := (rInt_size (rInt r).2).1
  have s3 := (rInt_size (rInt (rInt r).2).2).1
  have s4 := (rInt_size (rInt (rInt (rInt r).2).2).2).1
  have s5 := (rInt_size (rInt (rInt (rInt (rInt r).2).2).2).2).1
  have s6 := (rInt_size (rInt (rInt (rInt (rInt (rInt r).2).2).2).2).2).1
  unfold F_dump_reader_into_v3
  rw [F_rInt r (by omega)]; simp only [Option.bind_some]
  rw [F_rInt _ (by omega)]; simp only [Option.bind_some]
  rw [F_rInt _ (by omega)]; simp only [Option.bind_some]
  rw [F_rInt _ (by omega)]; simp only [Option.bind_some]
  rw [F_rInt _ (by omega)]; simp only [Option.bind_some]
  rw [F_rInt _ (by omega)]; simp only [Option.bind_some]
  rw [F_rInt _ (by omega)]; rfl
theorem F_alts (r : RD) (hs : r.s.size ≤ 200000) (p : Pr) (hp : p.Alts = []) : F_dump_reader_each_v2 r p = some ((listR 4096 rAlt r).2, ⟨p.Def, p.At, p.Vars, p.Fuel, p.Mode, p.Chan, p.Val, p.Slot, p.Until, p.Since, (listR 4096 rAlt r).1⟩) := by
  unfold F_dump_reader_each_v2
  have hu := rUpto_ok 4096 (by omega) r
  rw [F_rUpto 4096 (by omega) r (by omega)]
  simp only [Option.bind_some]
  rw [hp]
  have e := Loop_many (step := fun s : (Int × ByteArray × Int × Int × Int × Int × Int × Int × Int × Int × Int × Int × (List Int) × (List T_api_Alt)) => F_dump_reader_each_v2_L2 (rUpto 4096 r) s.1 s.2.1 s.2.2.1 s.2.2.2.1 s.2.2.2.2.1 s.2.2.2.2.2.1 s.2.2.2.2.2.2.1 s.2.2.2.2.2.2.2.1 s.2.2.2.2.2.2.2.2.1 s.2.2.2.2.2.2.2.2.2.1 s.2.2.2.2.2.2.2.2.2.2.1 s.2.2.2.2.2.2.2.2.2.2.2.1 s.2.2.2.2.2.2.2.2.2.2.2.2.1 s.2.2.2.2.2.2.2.2.2.2.2.2.2)
    altR (fun i r out => (i, r.s, r.e, p.Def, p.At, p.Fuel, p.Mode, p.Chan, p.Val, p.Slot, p.Until, p.Since, p.Vars, out)) (fun r out => (r, (⟨p.Def, p.At, p.Vars, p.Fuel, p.Mode, p.Chan, p.Val, p.Slot, p.Until, p.Since, out⟩ : Pr))) (rUpto 4096 r).1 hu.2.1 200000 (by omega)
    (fun i q out hi he ho hb => ?_) (fun i q out hi ho hb hb2 => ?_) (rUpto 4096 r).2 (by omega)
  · exact e
  · show F_dump_reader_each_v2_L2 (rUpto 4096 r) (i : Int) q.s q.e p.Def p.At p.Fuel p.Mode p.Chan p.Val p.Slot p.Until p.Since p.Vars out = _
    unfold F_dump_reader_each_v2_L2 F_wire_Reader_Err F_dump_reader_each_v2_J1 F_dump_reader_proc_1
    have h1 : F_dump_reader_into_v4 ⟨q.s, q.e⟩ ⟨0, 0, 0, 0, 0⟩ = some ((rAlt q).2, (rAlt q).1) := F_into_alt q (by omega) _
    rw [dct hi, cond_true]
    simp only [Option.bind_some]
    rw [beqt he, cond_true, h1]
    simp only [Option.bind_some]
    rw [grd_t (by simp only [List.length_cons, List.length_nil]; omega), w64s (by omega)]
    rfl
  · show F_dump_reader_each_v2_L2 (rUpto 4096 r) (i : Int) q.s q.e p.Def p.At p.Fuel p.Mode p.Chan p.Val p.Slot p.Until p.Since p.Vars out = _
    unfold F_dump_reader_each_v2_L2 F_wire_Reader_Err F_dump_reader_each_v2_J1
    simp only [Option.bind_some]
    rcases hi with hi | hi
    · rw [dcf (by omega)]; rfl
    · rw [beqf hi]
      cases decide ((i : Int) < (rUpto 4096 r).1) <;> rfl
theorem F_proc (r : RD) (hs : r.s.size ≤ 200000) : F_dump_reader_proc r = some (rProc r) := by
  have s1 := ((intR.pair intR).shr r).1
  have s2 := ((intsR 4096 (by omega)).shr (pairR rInt rInt r).2).1
  have s3 := (sevenR.shr (rInts 4096 (pairR rInt rInt r).2).2).1
  unfold F_dump_reader_proc
  rw [F_into_two r (by omega)]
  simp only [Option.bind_some]
  rw [F_rInts 4096 (by omega) _ (by omega)]
  simp only [Option.bind_some]
  rw [F_into_seven _ (by omega)]
  simp only [Option.bind_some]
  rw [F_alts _ (by omega) _ rfl]
  rfl
theorem F_procs (r : RD) (hs : r.s.size ≤ 200000) (o : Stt) (ho : o.Procs = []) : F_dump_reader_each r o = some ((listR 4096 rProc r).2, ⟨o.Now, o.Since, o.Halt, o.Fault, o.Who, (listR 4096 rProc r).1, o.Out⟩) := by
  unfold F_dump_reader_each
  have hu := rUpto_ok 4096 (by omega) r
  rw [F_rUpto 4096 (by omega) r (by omega)]
  simp only [Option.bind_some]
  rw [ho]
  have e := Loop_many (step := fun s : (Int × ByteArray × Int × Int × Int × Int × Int × Int × (List T_api_Proc) × (List Int)) => F_dump_reader_each_L2 (rUpto 4096 r) s.1 s.2.1 s.2.2.1 s.2.2.2.1 s.2.2.2.2.1 s.2.2.2.2.2.1 s.2.2.2.2.2.2.1 s.2.2.2.2.2.2.2.1 s.2.2.2.2.2.2.2.2.1 s.2.2.2.2.2.2.2.2.2)
    procR (fun i r out => (i, r.s, r.e, o.Now, o.Since, o.Halt, o.Fault, o.Who, out, o.Out)) (fun r out => (r, (⟨o.Now, o.Since, o.Halt, o.Fault, o.Who, out, o.Out⟩ : Stt))) (rUpto 4096 r).1 hu.2.1 200000 (by omega)
    (fun i q out hi he ho hb => ?_) (fun i q out hi ho hb hb2 => ?_) (rUpto 4096 r).2 (by omega)
  · exact e
  · show F_dump_reader_each_L2 (rUpto 4096 r) (i : Int) q.s q.e o.Now o.Since o.Halt o.Fault o.Who out o.Out = _
    unfold F_dump_reader_each_L2 F_wire_Reader_Err F_dump_reader_each_J1 F_dump_Read_1
    have h1 : F_dump_reader_proc ⟨q.s, q.e⟩ = some (rProc q) := F_proc q (by omega)
    rw [dct hi, cond_true]
    simp only [Option.bind_some]
    rw [beqt he, cond_true, h1]
    simp only [Option.bind_some]
    rw [grd_t (by simp only [List.length_cons, List.length_nil]; omega), w64s (by omega)]
    rfl
  · show F_dump_reader_each_L2 (rUpto 4096 r) (i : Int) q.s q.e o.Now o.Since o.Halt o.Fault o.Who out o.Out = _
    unfold F_dump_reader_each_L2 F_wire_Reader_Err F_dump_reader_each_J1
    simp only [Option.bind_some]
    rcases hi with hi | hi
    · rw [dcf (by omega)]; rfl
    · rw [beqf hi]
      cases decide ((i : Int) < (rUpto 4096 r).1) <;> rfl
theorem F_read (r : RD) (hs : r.s.size ≤ 200000) : F_dump_Read r = some (rState r) := by
  have s1 := (fiveR.shr r).1
  have s2 := ((procR.list 4096 (by omega)).shr (five r).2).1
  unfold F_dump_Read F_wire_Reader_Err
  rw [F_into_st r (by omega)]
  simp only [Option.bind_some]
  rw [F_procs _ (by omega) _ rfl]
  simp only [Option.bind_some]
  rw [F_rInts 1048576 (by omega) _ (by omega)]
  simp only [Option.bind_some]
  have e : rState r = (if (rInts 1048576 (listR 4096 rProc (five r).2).2).2.e ≠ 0 then noSt else ⟨(five r).1.1, (five r).1.2.1, (five r).1.2.2.1, (five r).1.2.2.2.1, (five r).1.2.2.2.2, (listR 4096 rProc (five r).2).1, (rInts 1048576 (listR 4096 rProc (five r).2).2).1⟩, (rInts 1048576 (listR 4096 rProc (five r).2).2).2) := rfl
  rw [e]
  by_cases h : (rInts 1048576 (listR 4096 rProc (five r).2).2).2.e = 0
  · simp only [bne, beqt h]
    rw [if_neg (fun q => q h)]; rfl
  · simp only [bne, beqf h]
    rw [if_pos h]; rfl
-- the reference's reader
theorem F_readR (r : RD) (hs : r.s.size ≤ 200000) : F_retraceref30_Read (rr r) = some ((rState r).1, rr (rState r).2) := by
  have s1 := (rInt_size r).1
  have s2 := (rInt_size (rInt r).2).1
  have s3 := (rInt_size (rInt (rInt r).2).2).1
  have s4 := (rInt_size (rInt (rInt (rInt r).2).2).2).1
  have s5 := (fiveR.shr r).1
  have hu := rUpto_ok 4096 (by omega) (five r).2
  unfold F_retraceref30_Read
  rw [F_rIntR r (by omega)]; simp only [Option.bind_some]
  rw [F_rIntR _ (by omega)]; simp only [Option.bind_some]
  rw [F_rIntR _ (by omega)]; simp only [Option.bind_some]
  rw [F_rIntR _ (by omega)]; simp only [Option.bind_some]
  rw [F_rIntR _ (by omega)]; simp only [Option.bind_some]
  have e5 : (rInt (rInt (rInt (rInt (rInt r).2).2).2).2).2 = (five r).2 := rfl
  rw [e5, F_rUptoR 4096 (by omega) _ (by omega)]
  simp only [Option.bind_some]
  generalize hy2 : ((rInt r).1, rr (rInt r).2) = y2
  generalize hy4 : ((rInt (rInt r).2).1, rr (rInt (rInt r).2).2) = y4
  generalize hy6 : ((rInt (rInt (rInt r).2).2).1, rr (rInt (rInt (rInt r).2).2).2) = y6
  generalize hy8 : ((rInt (rInt (rInt (rInt r).2).2).2).1, rr (rInt (rInt (rInt (rInt r).2).2).2).2) = y8
  generalize hy10 : ((rInt (rInt (rInt (rInt (rInt r).2).2).2).2).1, rr (five r).2) = y10
  have e := Loop_many (step := fun s : (Int × ByteArray × Int × (List T_api_Proc)) => F_retraceref30_Read_L4 y2 y4 y6 y8 y10 ((rUpto 4096 (five r).2).1, rr (rUpto 4096 (five r).2).2) s.1 s.2.1 s.2.2.1 s.2.2.2)
    procR (fun i r out => (i, r.s, r.e, out)) (fun q out => (if (rInts 1048576 q).2.e ≠ 0 then noSt else (⟨y2.1, y4.1, y6.1, y8.1, y10.1, out, (rInts 1048576 q).1⟩ : Stt), rr (rInts 1048576 q).2)) (rUpto 4096 (five r).2).1 hu.2.1 200000 (by omega)
    (fun i q out hi he ho hb => ?_) (fun i q out hi ho hb hb2 => ?_) (rUpto 4096 (five r).2).2 (by omega)
  · refine e.trans ?_
    subst hy2 hy4 hy6 hy8 hy10
    rfl
  · show F_retraceref30_Read_L4 y2 y4 y6 y8 y10 _ (i : Int) q.s q.e out = _
    unfold F_retraceref30_Read_L4 F_retraceref30_Read_J1
    rw [dct hi, cond_true, beqt he, cond_true]
    have t1 := (rInt_size q).1
    have t2 := ((intR.pair intR).shr q).1
    have t3 := ((intsR 4096 (by omega)).shr (pairR rInt rInt q).2).1
    have q1 : F_retraceref03_Reader_Int ⟨q.s, q.e⟩ = some ((rInt q).1, rr (rInt q).2) := F_rIntR q (by omega)
    rw [q1]; simp only [Option.bind_some]
    rw [F_rIntR _ (by omega)]; simp only [Option.bind_some]
    have f2 : (rInt (rInt q).2).2 = (pairR rInt rInt q).2 := rfl
    rw [f2, F_rIntsR 4096 (by omega) _ (by omega)]
    simp only [Option.bind_some]
    generalize hq2 : (rInts 4096 (pairR rInt rInt q).2).2 = q2 at t3 ⊢
    have u1 := (rInt_size q2).1
    have u2 := (rInt_size (rInt q2).2).1
    have u3 := (rInt_size (rInt (rInt q2).2).2).1
    have u4 := (rInt_size (rInt (rInt (rInt q2).2).2).2).1
    have u5 := (rInt_size (rInt (rInt (rInt (rInt q2).2).2).2).2).1
    have u6 := (rInt_size (rInt (rInt (rInt (rInt (rInt q2).2).2).2).2).2).1
    have u7 := (sevenR.shr q2).1
    rw [F_rIntR q2 (by omega)]; simp only [Option.bind_some]
    rw [F_rIntR _ (by omega)]; simp only [Option.bind_some]
    rw [F_rIntR _ (by omega)]; simp only [Option.bind_some]
    rw [F_rIntR _ (by omega)]; simp only [Option.bind_some]
    rw [F_rIntR _ (by omega)]; simp only [Option.bind_some]
    rw [F_rIntR _ (by omega)]; simp only [Option.bind_some]
    rw [F_rIntR _ (by omega)]; simp only [Option.bind_some]
    have f7 : (rInt (rInt (rInt (rInt (rInt (rInt (rInt q2).2).2).2).2).2).2).2 = (seven q2).2 := rfl
    have hv := rUpto_ok 4096 (by omega) (seven q2).2
    rw [f7, F_rUptoR 4096 (by omega) _ (by omega)]
    simp only [Option.bind_some]
    refine (Loop_many (step := fun s : (Int × ByteArray × Int × (List T_api_Alt)) => F_retraceref30_Read_L3 (i : Int) out ((rInt q).1, rr (rInt q).2) ((rInt (rInt q).2).1, rr (pairR rInt rInt q).2) ((rInts 4096 (pairR rInt rInt q).2).1, rr q2) ((rInt q2).1, rr (rInt q2).2) ((rInt (rInt q2).2).1, rr (rInt (rInt q2).2).2) ((rInt (rInt (rInt q2).2).2).1, rr (rInt (rInt (rInt q2).2).2).2) ((rInt (rInt (rInt (rInt q2).2).2).2).1, rr (rInt (rInt (rInt (rInt q2).2).2).2).2) ((rInt (rInt (rInt (rInt (rInt q2).2).2).2).2).1, rr (rInt (rInt (rInt (rInt (rInt q2).2).2).2).2).2) ((rInt (rInt (rInt (rInt (rInt (rInt q2).2).2).2).2).2).1, rr (rInt (rInt (rInt (rInt (rInt (rInt q2).2).2).2).2).2).2) ((rInt (rInt (rInt (rInt (rInt (rInt (rInt q2).2).2).2).2).2).2).1, rr (seven q2).2) ((rUpto 4096 (seven q2).2).1, rr (rUpto 4096 (seven q2).2).2) s.1 s.2.1 s.2.2.1 s.2.2.2)
      altR (fun i r out => (i, r.s, r.e, out)) (fun w al => .inl (((i + 1 : Nat) : Int), w.s, w.e, out ++ [(⟨(rInt q).1, (rInt (rInt q).2).1, (rInts 4096 (pairR rInt rInt q).2).1, (seven q2).1.1, (seven q2).1.2.1, (seven q2).1.2.2.1, (seven q2).1.2.2.2.1, (seven q2).1.2.2.2.2.1, (seven q2).1.2.2.2.2.2.1, (seven q2).1.2.2.2.2.2.2, al⟩ : Pr)])) (rUpto 4096 (seven q2).2).1 hv.2.1 200000 (by omega)
      (fun k w al hk hw hal hkb => ?_) (fun k w al hk hal hkb hkb2 => ?_) (rUpto 4096 (seven q2).2).2 (by omega)).trans ?_
    · show F_retraceref30_Read_L3 (i : Int) out _ _ _ _ _ _ _ _ _ _ _ (k : Int) w.s w.e al = _
      unfold F_retraceref30_Read_L3 F_retraceref30_Read_J2
      have v1 := (rInt_size w).1
      have v2 := (rInt_size (rInt w).2).1
      have v3 := (rInt_size (rInt (rInt w).2).2).1
      have v4 := (rInt_size (rInt (rInt (rInt w).2).2).2).1
      have w1 : F_retraceref03_Reader_Int ⟨w.s, w.e⟩ = some ((rInt w).1, rr (rInt w).2) := F_rIntR w (by omega)
      rw [dct hk, cond_true, beqt hw, cond_true, w1]; simp only [Option.bind_some]
      rw [F_rIntR _ (by omega)]; simp only [Option.bind_some]
      rw [F_rIntR _ (by omega)]; simp only [Option.bind_some]
      rw [F_rIntR _ (by omega)]; simp only [Option.bind_some]
      rw [F_rIntR _ (by omega)]; simp only [Option.bind_some]
      rw [grd_t (by simp only [List.length_cons, List.length_nil]; omega), w64s (by omega)]
      rfl
    · show F_retraceref30_Read_L3 (i : Int) out _ _ _ _ _ _ _ _ _ _ _ (k : Int) w.s w.e al = _
      unfold F_retraceref30_Read_L3 F_retraceref30_Read_J2
      have fin : ∀ b : Bool, b = false → cond b (F_retraceref30_Read_J2 (i : Int) out ((rInt q).1, rr (rInt q).2) ((rInt (rInt q).2).1, rr (pairR rInt rInt q).2) ((rInts 4096 (pairR rInt rInt q).2).1, rr q2) ((rInt q2).1, rr (rInt q2).2) ((rInt (rInt q2).2).1, rr (rInt (rInt q2).2).2) ((rInt (rInt (rInt q2).2).2).1, rr (rInt (rInt (rInt q2).2).2).2) ((rInt (rInt (rInt (rInt q2).2).2).2).1, rr (rInt (rInt (rInt (rInt q2).2).2).2).2) ((rInt (rInt (rInt (rInt (rInt q2).2).2).2).2).1, rr (rInt (rInt (rInt (rInt (rInt q2).2).2).2).2).2) ((rInt (rInt (rInt (rInt (rInt (rInt q2).2).2).2).2).2).1, rr (rInt (rInt (rInt (rInt (rInt (rInt q2).2).2).2).2).2).2) ((rInt (rInt (rInt (rInt (rInt (rInt (rInt q2).2).2).2).2).2).2).1, rr (seven q2).2) (k : Int) w.s w.e al true) (none) = none := fun b hb => by rw [hb]; rfl
      rcases hk with hk | hk
      · rw [dcf (by omega)]
        simp only [cond_false]
        rw [grd_t (by simp only [List.length_cons, List.length_nil]; omega), w64s (by omega)]
        rfl
      · rw [beqf hk]
        simp only [cond_false, Bool.cond_self]
        rw [grd_t (by simp only [List.length_cons, List.length_nil]; omega), w64s (by omega)]
        rfl
    · subst hq2
      rfl
  · show F_retraceref30_Read_L4 y2 y4 y6 y8 y10 _ (i : Int) q.s q.e out = _
    unfold F_retraceref30_Read_L4 F_retraceref30_Read_J1
    have q1 : F_retraceref03_Reader_Ints 1048576 ⟨q.s, q.e⟩ = some ((rInts 1048576 q).1, rr (rInts 1048576 q).2) := F_rIntsR 1048576 (by omega) q (by omega)
    rcases hi with hi | hi
    · rw [dcf (by omega)]
      simp only [cond_false]
      rw [q1]
      simp only [Option.bind_some]
      by_cases h : (rInts 1048576 q).2.e = 0
      · have h' : (rr (rInts 1048576 q).2).Bad = 0 := h
        simp only [bne, beqt h']
        rw [if_neg (fun z => z h)]; rfl
      · have h' : ¬ (rr (rInts 1048576 q).2).Bad = 0 := h
        simp only [bne, beqf h']
        rw [if_pos h]; rfl
    · rw [beqf hi]
      simp only [cond_false, Bool.cond_self]
      rw [q1]
      simp only [Option.bind_some]
      by_cases h : (rInts 1048576 q).2.e = 0
      · have h' : (rr (rInts 1048576 q).2).Bad = 0 := h
        simp only [bne, beqt h']
        rw [if_neg (fun z => z h)]; rfl
      · have h' : ¬ (rr (rInts 1048576 q).2).Bad = 0 := h
        simp only [bne, beqf h']
        rw [if_pos h]; rfl
end Go.Ab
end
section
/- States' bytes: written, got, put again. -/
namespace Go.Ab
set_option linter.unusedVariables false
structure PB (p : Pr) : Prop where
  v : p.Vars.length ≤ 2601
  a : p.Alts.length ≤ 2601
structure SB (s : Stt) : Prop where
  n : s.Procs.length ≤ 2601
  o : s.Out.length ≤ 2601
  p : ∀ p ∈ s.Procs, PB p
theorem sameSt (s : Stt) (hb : SB s) : F_retraceref28_Same s s = some true := by
  have hn := hb.n
  have ho := hb.o
  have j : F_retraceref28_Same_J1 s s false = some true := by
    unfold F_retraceref28_Same_J1
    refine Loop_nat (step := fun q : (Int) => F_retraceref28_Same_L2 s s q) (fun k => (k : Int)) s.Procs.length (fun k hk => ?_) ?_
    · show F_retraceref28_Same_L2 s s (k : Int) = _
      have hp := hb.p _ (List.getElem_mem hk)
      unfold F_retraceref28_Same_L2
      rw [dct (by omega), lAt_lt hk]
      simp only [cond_true, Option.bind_some]
      rw [same_self _ (by have := hp.v; omega) (by have := hp.a; omega)]
      simp only [Option.bind_some, Bool.not_true, cond_false]
      rw [w64s (by omega)]
    · show F_retraceref28_Same_L2 s s (s.Procs.length : Int) = _
      unfold F_retraceref28_Same_L2
      rw [dcf (by omega)]; rfl
  unfold F_retraceref28_Same
  rw [sameI_eq s.Out s.Out (by omega) true (by simp)]
  simp only [bne, beq_self_eq_true, Bool.not_true, cond_false, Option.bind_some]
  exact j
theorem noSt_SB : SB noSt := ⟨by simp [noSt], by simp [noSt], fun p hp => by cases hp⟩
theorem rProc_PB (r : RD) (hr : r.s.size ≤ 2600) : PB (rProc r).1 := by
  have s1 := ((intR.pair intR).shr r).1
  have s2 := ((intsR 4096 (by omega)).shr (pairR rInt rInt r).2).1
  have s3 := (sevenR.shr (rInts 4096 (pairR rInt rInt r).2).2).1
  refine ⟨?_, ?_⟩
  · have := (rInts_len 4096 (by omega) (pairR rInt rInt r).2).1
    show (rInts 4096 (pairR rInt rInt r).2).1.length ≤ 2601
    omega
  · have h := rUpto_ok 4096 (by omega) (seven (rInts 4096 (pairR rInt rInt r).2).2).2
    have := (many_len altR (rUpto 4096 (seven (rInts 4096 (pairR rInt rInt r).2).2).2).1.toNat (rUpto 4096 (seven (rInts 4096 (pairR rInt rInt r).2).2).2).2).1
    show (many rAlt (rUpto 4096 (seven (rInts 4096 (pairR rInt rInt r).2).2).2).1.toNat (rUpto 4096 (seven (rInts 4096 (pairR rInt rInt r).2).2).2).2).1.length ≤ 2601
    omega
theorem rState_SB (r : RD) (hr : r.s.size ≤ 2600) : SB (rState r).1 := by
  unfold rState
  simp only
  split
  · exact noSt_SB
  · have s1 := (fiveR.shr r).1
    have hu := rUpto_ok 4096 (by omega) (five r).2
    have hl := many_len procR (rUpto 4096 (five r).2).1.toNat (rUpto 4096 (five r).2).2
    refine ⟨?_, ?_, ?_⟩
    · show (many rProc (rUpto 4096 (five r).2).1.toNat (rUpto 4096 (five r).2).2).1.length ≤ 2601
      omega
    · have h2 := (rInts_len 1048576 (by omega) (many rProc (rUpto 4096 (five r).2).1.toNat (rUpto 4096 (five r).2).2).2).1
      show (rInts 1048576 (many rProc (rUpto 4096 (five r).2).1.toNat (rUpto 4096 (five r).2).2).2).1.length ≤ 2601
      omega
    · exact many_all procR (B := 2600) (fun q hq => rProc_PB q hq) _ _ (by omega)
end Go.Ab
end
section
namespace Go.Ab
set_option linter.unusedVariables false

theorem wu32_of {n : Int} (h0 : 0 ≤ n) (h1 : n < 4294967296) : wu32 n = n := by rw [wu32, IntKind.wrap_u32]; omega
theorem wu32_mod (n : Int) : wu32 n = n % 4294967296 := by rw [wu32, IntKind.wrap_u32]
theorem xr_w64 {n : Int} (h0 : -9223372036854775808 ≤ n) (h1 : n ≤ 9223372036854775807) : w64 n = n := by rw [w64, IntKind.wrap_i64]; omega
theorem xr_wu8 (n : Int) : wu8 n = n % 256 := by rw [wu8, IntKind.wrap_u8]

/-- One bit. -/
def st1 (c : Nat) : Nat := c / 2 ^^^ (if c % 2 = 1 then 3988292384 else 0)
def stN : Nat → Nat → Nat
  | 0, c => c
  | n + 1, c => stN n (st1 c)
def crcL : Nat → List Nat → Nat
  | c, [] => c
  | c, b :: l => crcL (stN 8 (c ^^^ b)) l
def nB (s : ByteArray) : List Nat := s.data.toList.map UInt8.toNat
theorem sB_nB (s : ByteArray) : sB s = (nB s).map (fun n : Nat => (n : Int)) := by simp [sB, nB]
theorem nB_mem {s : ByteArray} {b : Nat} (h : b ∈ nB s) : b < 256 := by
  simp only [nB, List.mem_map] at h
  obtain ⟨x, _, rfl⟩ := h
  exact x.toNat_lt
theorem nB_len (s : ByteArray) : (nB s).length = s.size := by simp [nB]
theorem st1_lt {c : Nat} (h : c < 4294967296) : st1 c < 4294967296 := by
  unfold st1
  refine Nat.xor_lt_two_pow (n := 32) (by omega) ?_
  split <;> decide
theorem stN_lt : ∀ (n : Nat) {c : Nat}, c < 4294967296 → stN n c < 4294967296
  | 0, c, h => h
  | n + 1, c, h => stN_lt n (st1_lt h)
theorem xor_lt {a b : Nat} (ha : a < 4294967296) (hb : b < 4294967296) : a ^^^ b < 4294967296 := Nat.xor_lt_two_pow (n := 32) ha hb
theorem crcL_lt : ∀ (l : List Nat) {c : Nat}, c < 4294967296 → (∀ b ∈ l, b < 256) → crcL c l < 4294967296
  | [], c, h, _ => h
  | b :: l, c, h, hl => crcL_lt l (stN_lt 8 (xor_lt h (by have := hl b (by simp); omega))) (fun x hx => hl x (by simp [hx]))

theorem xor4 (a b c d : Nat) : (a ^^^ b) ^^^ (c ^^^ d) = (a ^^^ c) ^^^ (b ^^^ d) := by
  rw [Nat.xor_assoc, Nat.xor_assoc, ← Nat.xor_assoc b, ← Nat.xor_assoc c, Nat.xor_comm b c]
theorem st1_xor (a b : Nat) : st1 (a ^^^ b) = st1 a ^^^ st1 b := by
  unfold st1
  rw [xor4, Nat.xor_div_two]
  congr 1
  have h := Nat.testBit_xor (x := a) (y := b) (i := 0)
  simp only [Nat.testBit_zero] at h
  by_cases ha : a % 2 = 1 <;> by_cases hb : b % 2 = 1 <;> simp [ha, hb] at h <;> simp [ha, hb]
theorem stN_xor : ∀ (n a b : Nat), stN n (a ^^^ b) = stN n a ^^^ stN n b
  | 0, _, _ => rfl
  | n + 1, a, b => by simp only [stN]; rw [st1_xor, stN_xor n]
theorem st1_even {c : Nat} : st1 (2 * c) = c := by
  unfold st1
  have h1 : 2 * c / 2 = c := by omega
  have h2 : ¬ 2 * c % 2 = 1 := by omega
  rw [h1, if_neg h2, Nat.xor_zero]
theorem stN_pow : ∀ (n c : Nat), stN n (2 ^ n * c) = c
  | 0, c => by simp [stN]
  | n + 1, c => by
    have : 2 ^ (n + 1) * c = 2 * (2 ^ n * c) := by rw [Nat.pow_succ, Nat.mul_comm (2 ^ n) 2, Nat.mul_assoc]
    simp only [stN]
    rw [this, st1_even, stN_pow n]

/-- A byte at a time. -/
theorem st8_table {c b : Nat} (hb : b < 256) : stN 8 (c ^^^ b) = stN 8 ((c % 256) ^^^ b) ^^^ (c / 256) := by
  have h : c = 2 ^ 8 * (c / 256) ^^^ (c % 256) := by
    have e := Nat.two_pow_add_eq_or_of_lt (i := 8) (b := c % 256) (by omega) (c / 256)
    have e2 : 2 ^ 8 * (c / 256) ^^^ (c % 256) = 2 ^ 8 * (c / 256) ||| (c % 256) := by
      apply Nat.eq_of_testBit_eq
      intro i
      rw [Nat.testBit_xor, Nat.testBit_or, Nat.testBit_two_pow_mul]
      by_cases hi : i < 8
      · simp [Nat.not_le.2 hi]
      · have : (c % 256).testBit i = false := Nat.testBit_lt_two_pow (Nat.lt_of_lt_of_le (by omega : c % 256 < 2 ^ 8) (Nat.pow_le_pow_right (by decide) (by omega)))
        simp [this]
    rw [e2, ← e]; omega
  conv => lhs; rw [h]
  rw [Nat.xor_assoc, stN_xor, stN_pow, Nat.xor_comm]

theorem u32x (a b : Nat) (ha : a < 4294967296) (hb : b < 4294967296) : bits .xor .u32 (a : Int) (b : Int) = ((a ^^^ b : Nat) : Int) := Go.u32_xor_nat a b ha hb
theorem u8x (a b : Nat) (ha : a < 256) (hb : b < 256) : bits .xor .u8 (a : Int) (b : Int) = ((a ^^^ b : Nat) : Int) := Go.u8_xor_nat a b ha hb

def J_push (k x : Int) : Option ((Int × Int) ⊕ Int) := some (.inl (x, w64 (k + 1)))
def J_table (i : Int) (t : List Int) (x : Int) : Option ((Int × (List Int)) ⊕ (List Int)) := grd ((0 : Int) ≤ i ∧ i < 256 ∧ Int.toNat i < t.length) <| some (.inl ((w64 (i + 1)), (List.set t (Int.toNat i) x)))
/-- The reference. -/
theorem push_inner (k : Int) : ∀ (d : Nat) (c : Nat) (j : Nat), c < 4294967296 → j + d = 8 → Loop (fun s : (Int × Int) => F_retraceref02_push_L2 k s.1 s.2) ((c : Int), (j : Int)) = J_push k ((stN d c : Nat) : Int) := by
  intro d
  induction d with
  | zero =>
    intro c j hc hj
    have : j = 8 := by omega
    subst this
    refine (Loop_inr (step := fun s : (Int × Int) => F_retraceref02_push_L2 k s.1 s.2) (s := ((c : Int), ((8 : Nat) : Int))) (r := .inl ((c : Int), w64 (k + 1))) ?_).trans ?_
    · show F_retraceref02_push_L2 k (c : Int) ((8 : Nat) : Int) = _
      unfold F_retraceref02_push_L2
      rfl
    · rfl
  | succ d ih =>
    intro c j hc hj
    have hs : F_retraceref02_push_L2 k (c : Int) (j : Int) = some (.inl (((st1 c : Nat) : Int), ((j + 1 : Nat) : Int))) := by
      unfold F_retraceref02_push_L2
      have e1 : decide ((j : Int) < 8) = true := by simp; omega
      have e2 : Int.tmod (c : Int) 2 = ((c % 2 : Nat) : Int) := by rw [Int.tmod_eq_emod_of_nonneg (by omega)]; omega
      have e3 : wu32 (Int.tdiv (c : Int) 2) = ((c / 2 : Nat) : Int) := by rw [Int.tdiv_eq_ediv_of_nonneg (by omega), wu32_of (by omega) (by omega)]; omega
      have e4 : w64 ((j : Int) + 1) = ((j + 1 : Nat) : Int) := by rw [xr_w64 (by omega) (by omega)]; simp
      rw [e1, cond_true, e2, e3]
      unfold F_retraceref02_push_J1 st1
      rw [e4]
      by_cases h : c % 2 = 1
      · have : (((c % 2 : Nat) : Int) == 1) = true := by simp; omega
        rw [this, cond_true, if_pos h, ← u32x _ _ (by omega) (by decide)]
        rfl
      · have : (((c % 2 : Nat) : Int) == 1) = false := by simp; omega
        rw [this, cond_false, if_neg h, Nat.xor_zero]
    rw [Loop_inl (step := fun s : (Int × Int) => F_retraceref02_push_L2 k s.1 s.2) (s := ((c : Int), (j : Int))) hs, ih (st1 c) (j + 1) (st1_lt hc) (by omega)]
    rfl

theorem push_loop (s : ByteArray) (hs : s.size ≤ 1000000) : ∀ (l : List Nat) (c i : Nat), c < 4294967296 → (nB s).drop i = l → i ≤ s.size → Loop (fun q : (Int × Int) => F_retraceref02_push_L3 s q.1 q.2) ((c : Int), (i : Int)) = some ((crcL c l : Nat) : Int) := by
  intro l
  induction l with
  | nil =>
    intro c i hc hd hi
    have hge : s.size ≤ i := by rw [← nB_len s]; exact List.drop_eq_nil_iff.1 hd
    refine Loop_inr (step := fun q : (Int × Int) => F_retraceref02_push_L3 s q.1 q.2) (s := ((c : Int), (i : Int))) ?_
    show F_retraceref02_push_L3 s (c : Int) (i : Int) = _
    unfold F_retraceref02_push_L3
    have : decide ((i : Int) < (s.size : Int)) = false := by simp; omega
    rw [this]
    rfl
  | cons b l ih =>
    intro c i hc hd hi
    have hb : (nB s)[i]? = some b := by
      have := congrArg (fun q => q[0]?) hd
      simpa using this
    have hlt : i < s.size := by rw [← nB_len s]; exact lt_of_getL hb
    have hb2 : b < 256 := nB_mem (List.mem_of_getElem? hb)
    have hat : sAt s (i : Int) = some (b : Int) := by
      rw [sAt_eq, lAt_nat, sB_nB, List.getElem?_map, hb]; rfl
    have hstep : F_retraceref02_push_L3 s (c : Int) (i : Int) = some (.inl (((stN 8 (c ^^^ b) : Nat) : Int), ((i + 1 : Nat) : Int))) := by
      unfold F_retraceref02_push_L3
      have : decide ((i : Int) < (s.size : Int)) = true := by simp; omega
      rw [this, cond_true, hat]
      simp only [Option.bind_some]
      rw [wu32_of (by omega) (by omega), u32x _ _ hc (by omega)]
      have := push_inner (i : Int) 8 (c ^^^ b) 0 (xor_lt hc (by omega)) rfl
      rw [show ((0 : Nat) : Int) = 0 from rfl] at this
      rw [this]
      unfold J_push
      rw [xr_w64 (by omega) (by omega)]
      simp
    rw [Loop_inl (step := fun q : (Int × Int) => F_retraceref02_push_L3 s q.1 q.2) (s := ((c : Int), (i : Int))) hstep, ih _ (i + 1) (stN_lt 8 (xor_lt hc (by omega))) (by rw [← List.drop_drop, hd]; rfl) (by omega)]
    rfl
theorem F_push (c : Nat) (hc : c < 4294967296) (s : ByteArray) (hs : s.size ≤ 1000000) : F_retraceref02_push (c : Int) s = some ((crcL c (nB s) : Nat) : Int) := by
  unfold F_retraceref02_push
  exact push_loop s hs (nB s) c 0 hc rfl (by omega)

/-- The table. -/
theorem st1_and (c : Nat) (hc : c < 4294967296) : bits .xor .u32 (Int.fdiv (c : Int) 2) (bits .and .u32 3988292384 (wu32 (0 - (bits .and .u32 (c : Int) 1)))) = ((st1 c : Nat) : Int) := by
  have hm : bits .and .u32 (c : Int) 1 = ((c % 2 : Nat) : Int) := by
    have := bits_mask .u32 32 (by decide) (fun n h0 h1 => by rw [IntKind.wrap_u32]; omega) 1 (by decide) (c : Int) (by omega) (by omega)
    have e : ((2 : Int) ^ 1 - 1) = 1 := by decide
    rw [e] at this
    rw [this]; omega
  have hd : Int.fdiv (c : Int) 2 = ((c / 2 : Nat) : Int) := by rw [Int.fdiv_eq_ediv_of_nonneg _ (by decide)]; omega
  rw [hm, hd]
  unfold st1
  rcases Nat.mod_two_eq_zero_or_one c with h | h
  · rw [h, if_neg (by decide)]
    have : bits .and .u32 3988292384 (wu32 (0 - ((0 : Nat) : Int))) = ((0 : Nat) : Int) := by decide
    rw [this, u32x _ _ (by omega) (by decide)]
  · rw [h, if_pos rfl]
    have : bits .and .u32 3988292384 (wu32 (0 - ((1 : Nat) : Int))) = ((3988292384 : Nat) : Int) := by decide
    rw [this, u32x _ _ (by omega) (by decide)]

theorem table_inner (i : Int) (t : List Int) : ∀ (d c j : Nat), c < 4294967296 → j + d = 8 → ∀ r, J_table i t ((stN d c : Nat) : Int) = some r → Loop (fun s : (Int × Int) => F_crc_table_L1 i t s.1 s.2) ((c : Int), (j : Int)) = some r := by
  intro d
  induction d with
  | zero =>
    intro c j hc hj r hr
    have : j = 8 := by omega
    subst this
    refine Loop_inr (step := fun s : (Int × Int) => F_crc_table_L1 i t s.1 s.2) (s := ((c : Int), ((8 : Nat) : Int))) ?_
    show F_crc_table_L1 i t (c : Int) ((8 : Nat) : Int) = _
    unfold F_crc_table_L1
    rw [show decide (((8 : Nat) : Int) < 8) = false from rfl, cond_false]
    show (J_table i t (c : Int)).map Sum.inr = _
    rw [show J_table i t (c : Int) = some r from hr]
    rfl
  | succ d ih =>
    intro c j hc hj r hr
    have hs : F_crc_table_L1 i t (c : Int) (j : Int) = some (.inl (((st1 c : Nat) : Int), ((j + 1 : Nat) : Int))) := by
      unfold F_crc_table_L1
      have e1 : decide ((j : Int) < 8) = true := by simp; omega
      have e4 : w64 ((j : Int) + 1) = ((j + 1 : Nat) : Int) := by rw [xr_w64 (by omega) (by omega)]; simp
      rw [e1, cond_true, st1_and c hc, e4]
    rw [Loop_inl (step := fun s : (Int × Int) => F_crc_table_L1 i t s.1 s.2) (s := ((c : Int), (j : Int))) hs]
    exact ih (st1 c) (j + 1) (st1_lt hc) (by omega) r hr

def tabTo (i : Nat) : List Int := (List.range 256).map fun j => if j < i then ((stN 8 j : Nat) : Int) else 0
theorem tabTo_len (i : Nat) : (tabTo i).length = 256 := by simp [tabTo]
theorem tabTo_set (i : Nat) (h : i < 256) : (tabTo i).set i ((stN 8 i : Nat) : Int) = tabTo (i + 1) := by
  apply List.ext_getElem?
  intro j
  rw [List.getElem?_set]
  by_cases e : i = j
  · subst e
    simp [tabTo, h]
  · simp only [e, if_false]
    unfold tabTo
    simp only [List.getElem?_map]
    cases hq : (List.range 256)[j]? with
    | none => rfl
    | some k =>
      have : k = j := by
        have := List.getElem?_range (n := 256) (i := j)
        have hl := lt_of_getL hq
        simp at hl
        rw [List.getElem?_range hl] at hq
        simpa using hq.symm
      subst this
      simp only [Option.map_some]
      by_cases h1 : k < i
      · rw [if_pos h1, if_pos (by omega)]
      · rw [if_neg h1, if_neg (by omega)]

theorem table_loop : ∀ (d i : Nat), i + d = 256 → Loop (fun s : (Int × (List Int)) => F_crc_table_L2 s.1 s.2) ((i : Int), tabTo i) = some (tabTo 256) := by
  intro d
  induction d with
  | zero =>
    intro i hi
    have : i = 256 := by omega
    subst this
    refine Loop_inr (step := fun s : (Int × (List Int)) => F_crc_table_L2 s.1 s.2) (s := (((256 : Nat) : Int), tabTo 256)) ?_
    show F_crc_table_L2 ((256 : Nat) : Int) (tabTo 256) = _
    unfold F_crc_table_L2
    rw [show decide (((256 : Nat) : Int) < 256) = false from rfl, cond_false]
    unfold grd
    rw [if_pos (tabTo_len _), if_pos ⟨tabTo_len _, List.length_replicate⟩, if_pos (tabTo_len _)]
    rfl
  | succ d ih =>
    intro i hi
    have hs : F_crc_table_L2 (i : Int) (tabTo i) = some (.inl (((i + 1 : Nat) : Int), tabTo (i + 1))) := by
      unfold F_crc_table_L2
      have e1 : decide ((i : Int) < 256) = true := by simp; omega
      rw [e1, cond_true, wu32_of (by omega) (by omega)]
      refine table_inner (i : Int) (tabTo i) 8 i 0 (by omega) rfl _ ?_
      unfold J_table grd
      rw [if_pos ⟨by omega, by omega, by rw [tabTo_len]; omega⟩, Int.toNat_natCast, tabTo_set i (by omega), xr_w64 (by omega) (by omega)]
      simp
    rw [Loop_inl (step := fun s : (Int × (List Int)) => F_crc_table_L2 s.1 s.2) (s := ((i : Int), tabTo i)) hs]
    exact ih (i + 1) (by omega)
theorem tabTo_zero : tabTo 0 = List.replicate 256 0 := by
  apply List.ext_getElem?
  intro j
  rw [List.getElem?_replicate]
  unfold tabTo
  rw [List.getElem?_map]
  by_cases h : j < 256
  · rw [List.getElem?_range h, if_pos h]; rfl
  · rw [List.getElem?_eq_none (by rw [List.length_range]; omega), if_neg h]; rfl
theorem F_table : F_crc_table = some (tabTo 256) := by
  unfold F_crc_table
  rw [← tabTo_zero]
  exact table_loop 256 0 rfl
theorem tab_at (j : Nat) (h : j < 256) : aAt 256 (tabTo 256) (j : Int) = some ((stN 8 j : Nat) : Int) := by
  unfold aAt
  rw [if_pos (by omega), Int.toNat_natCast]
  simp [tabTo, h]

theorem more_loop (s : ByteArray) (hs : s.size ≤ 1000000) : ∀ (l : List Nat) (c i : Nat), c < 4294967296 → (nB s).drop i = l → i ≤ s.size → Loop (fun q : (Int × Int) => F_crc_More_L1 s (tabTo 256) q.1 q.2) ((c : Int), (i : Int)) = some ((crcL c l ^^^ 4294967295 : Nat) : Int) := by
  intro l
  induction l with
  | nil =>
    intro c i hc hd hi
    have hge : s.size ≤ i := by rw [← nB_len s]; exact List.drop_eq_nil_iff.1 hd
    refine Loop_inr (step := fun q : (Int × Int) => F_crc_More_L1 s (tabTo 256) q.1 q.2) (s := ((c : Int), (i : Int))) ?_
    show F_crc_More_L1 s (tabTo 256) (c : Int) (i : Int) = _
    unfold F_crc_More_L1
    have : decide ((i : Int) < ((sB s).length : Int)) = false := by rw [sB_len]; simp; omega
    rw [this, cond_false]
    have e : bits .xor .u32 4294967295 (c : Int) = ((4294967295 ^^^ c : Nat) : Int) := u32x 4294967295 c (by decide) hc
    rw [e, Nat.xor_comm]
    rfl
  | cons b l ih =>
    intro c i hc hd hi
    have hb : (nB s)[i]? = some b := by
      have := congrArg (fun q => q[0]?) hd
      simpa using this
    have hlt : i < s.size := by rw [← nB_len s]; exact lt_of_getL hb
    have hb2 : b < 256 := nB_mem (List.mem_of_getElem? hb)
    have hat : lAt (sB s) (i : Int) = some (b : Int) := by
      rw [lAt_nat, sB_nB, List.getElem?_map, hb]; rfl
    have hx8 : c % 256 ^^^ b < 256 := Nat.xor_lt_two_pow (n := 8) (by omega) hb2
    have hstep : F_crc_More_L1 s (tabTo 256) (c : Int) (i : Int) = some (.inl (((stN 8 (c ^^^ b) : Nat) : Int), ((i + 1 : Nat) : Int))) := by
      unfold F_crc_More_L1
      have : decide ((i : Int) < ((sB s).length : Int)) = true := by rw [sB_len]; simp; omega
      rw [this, cond_true, hat]
      simp only [Option.bind_some]
      have e1 : wu8 (c : Int) = ((c % 256 : Nat) : Int) := by rw [xr_wu8]; omega
      have e2 : Int.fdiv (c : Int) 256 = ((c / 256 : Nat) : Int) := by rw [Int.fdiv_eq_ediv_of_nonneg _ (by decide)]; omega
      rw [e1, u8x _ _ (by omega) hb2, tab_at _ hx8, e2]
      simp only [Option.bind_some]
      rw [u32x _ _ (stN_lt 8 (by omega)) (by omega), ← st8_table hb2, xr_w64 (by omega) (by omega)]
      simp
    rw [Loop_inl (step := fun q : (Int × Int) => F_crc_More_L1 s (tabTo 256) q.1 q.2) (s := ((c : Int), (i : Int))) hstep, ih _ (i + 1) (stN_lt 8 (xor_lt hc (by omega))) (by rw [← List.drop_drop, hd]; rfl) (by omega)]
    rfl

/-- The sum, going on from c. -/
def moreN (c : Nat) (s : ByteArray) : Nat := crcL (c ^^^ 4294967295) (nB s) ^^^ 4294967295
theorem moreN_lt {c : Nat} (hc : c < 4294967296) (s : ByteArray) : moreN c s < 4294967296 := xor_lt (crcL_lt _ (xor_lt hc (by decide)) (fun b hb => nB_mem hb)) (by decide)
theorem F_more (c : Nat) (hc : c < 4294967296) (s : ByteArray) (hs : s.size ≤ 1000000) : F_crc_More (c : Int) s = some ((moreN c s : Nat) : Int) := by
  unfold F_crc_More
  rw [F_table]
  simp only [Option.bind_some]
  unfold grd
  rw [if_pos ⟨tabTo_len _, List.length_replicate⟩, if_pos (by omega)]
  have e : bits .xor .u32 4294967295 (c : Int) = ((c ^^^ 4294967295 : Nat) : Int) := by
    rw [Nat.xor_comm]; exact u32x 4294967295 c (by decide) hc
  rw [e]
  exact more_loop s hs (nB s) _ 0 (xor_lt hc (by decide)) rfl (by omega)
theorem F_sum (s : ByteArray) (hs : s.size ≤ 1000000) : F_crc_Sum s = some ((moreN 0 s : Nat) : Int) := by
  unfold F_crc_Sum
  have := F_more 0 (by decide) s hs
  rw [show ((0 : Nat) : Int) = 0 from rfl] at this
  rw [this]; rfl
theorem F_sumR (s : ByteArray) (hs : s.size ≤ 1000000) : F_retraceref02_Sum s = some ((moreN 0 s : Nat) : Int) := by
  unfold F_retraceref02_Sum
  have := F_push 4294967295 (by decide) s hs
  rw [show ((4294967295 : Nat) : Int) = 4294967295 from rfl] at this
  rw [this]
  simp only [Option.bind_some]
  have e := congrArg some (u32x (crcL 4294967295 (nB s)) 4294967295 (crcL_lt _ (by decide) (fun b hb => nB_mem hb)) (by decide))
  rw [show ((4294967295 : Nat) : Int) = 4294967295 from rfl] at e
  rw [e]
  unfold moreN
  rw [Nat.zero_xor]

def leN (c : Nat) : List Int := [((c % 256 : Nat) : Int), ((c / 256 % 256 : Nat) : Int), ((c / 65536 % 256 : Nat) : Int), ((c / 16777216 % 256 : Nat) : Int)]
theorem F_bytes (c : Nat) (hc : c < 4294967296) : F_crc_Bytes (c : Int) = some (strOfNums (leN c)) := by
  unfold F_crc_Bytes leN
  simp only [xr_wu8, Int.fdiv_eq_ediv_of_nonneg _ (show (0 : Int) ≤ 256 by decide), Int.fdiv_eq_ediv_of_nonneg _ (show (0 : Int) ≤ 65536 by decide), Int.fdiv_eq_ediv_of_nonneg _ (show (0 : Int) ≤ 16777216 by decide)]
  congr 2
theorem F_bytesR (c : Nat) (hc : c < 4294967296) : F_retraceref02_Bytes (c : Int) = some (strOfNums (leN c)) := by
  unfold F_retraceref02_Bytes leN
  have h0 : (0 : Int) ≤ (c : Int) := by omega
  have e1 : wu8 (Int.tmod (c : Int) 256) = ((c % 256 : Nat) : Int) := by rw [Int.tmod_eq_emod_of_nonneg h0, xr_wu8]; omega
  have f1 : wu32 (Int.tdiv (c : Int) 256) = ((c / 256 : Nat) : Int) := by rw [Int.tdiv_eq_ediv_of_nonneg h0, wu32_of (by omega) (by omega)]; omega
  have f2 : wu32 (Int.tdiv (c : Int) 65536) = ((c / 65536 : Nat) : Int) := by rw [Int.tdiv_eq_ediv_of_nonneg h0, wu32_of (by omega) (by omega)]; omega
  have f3 : wu32 (Int.tdiv (c : Int) 16777216) = ((c / 16777216 : Nat) : Int) := by rw [Int.tdiv_eq_ediv_of_nonneg h0, wu32_of (by omega) (by omega)]; omega
  have e2 : wu8 (Int.tmod ((c / 256 : Nat) : Int) 256) = ((c / 256 % 256 : Nat) : Int) := by rw [Int.tmod_eq_emod_of_nonneg (by omega), xr_wu8]; omega
  have e3 : wu8 (Int.tmod ((c / 65536 : Nat) : Int) 256) = ((c / 65536 % 256 : Nat) : Int) := by rw [Int.tmod_eq_emod_of_nonneg (by omega), xr_wu8]; omega
  have e4 : wu8 ((c / 16777216 : Nat) : Int) = ((c / 16777216 % 256 : Nat) : Int) := by rw [xr_wu8]; omega
  rw [e1, f1, f2, f3, e2, e3, e4]
end Go.Ab
end
section
namespace Go.Ab
set_option linter.unusedVariables false

theorem leN_size (c : Nat) : (strOfNums (leN c)).size = 4 := by rw [num_size]; rfl
def openV (s : ByteArray) : ByteArray × Int :=
  if s.size < 4 then (⟨#[]⟩, 2) else if strOfNums (leN (moreN 0 (s.extract 0 (s.size - 4)))) = s.extract (s.size - 4) s.size then (s.extract 0 (s.size - 4), 0) else (⟨#[]⟩, 4)

theorem F_open (s : ByteArray) (hs : s.size ≤ 1000000) : F_crc_Open s = some (openV s) := by
  unfold F_crc_Open openV
  have ew : w64 ((s.size : Int) - 4) = (s.size : Int) - 4 := xr_w64 (by omega) (by omega)
  rw [ew]
  by_cases h : s.size < 4
  · rw [decide_eq_true (show (s.size : Int) - 4 < 0 by omega), cond_true, if_pos h]
  · have e4 : Int.toNat ((s.size : Int) - 4) = s.size - 4 := by omega
    have hx : (s.extract 0 (s.size - 4)).size ≤ 1000000 := by rw [ByteArray.size_extract]; omega
    rw [decide_eq_false (show ¬ (s.size : Int) - 4 < 0 by omega), cond_false, if_neg h, e4]
    unfold grd
    rw [if_pos (by omega), Int.toNat_zero, F_sum _ hx]
    simp only [Option.bind_some]
    rw [F_bytes _ (moreN_lt (by decide) _)]
    simp only [Option.bind_some]
    rw [if_pos (by omega), eqS, Int.toNat_natCast]
    by_cases hq : strOfNums (leN (moreN 0 (s.extract 0 (s.size - 4)))) = s.extract (s.size - 4) s.size
    · rw [decide_eq_true hq, if_pos hq, if_pos (by omega)]; rfl
    · rw [decide_eq_false hq, if_neg hq]; rfl

end Go.Ab
end
section
/- Frames, plainly. -/
namespace Go.Ab
set_option linter.unusedVariables false

def noF : T_api_Frame := ⟨0, ⟨#[]⟩⟩
def nextV (s : ByteArray) (p : Int) : T_api_Frame × Int × Int :=
  if p < 0 ∨ (s.size : Int) < p then (noF, 0, 1) else if p = s.size then (noF, 0, 2)
  else if (getV s (p + 1)).2.2 ≠ 0 then (noF, 0, (getV s (p + 1)).2.2) else if 1048576 < (getV s (p + 1)).1 then (noF, 0, 5)
  else if (s.size : Int) - (getV s (p + 1)).2.1 < (getV s (p + 1)).1 + 4 then (noF, 0, 2)
  else if strOfNums (leN (moreN 0 (s.extract p.toNat ((getV s (p + 1)).2.1 + (getV s (p + 1)).1).toNat))) = s.extract ((getV s (p + 1)).2.1 + (getV s (p + 1)).1).toNat ((getV s (p + 1)).2.1 + (getV s (p + 1)).1 + 4).toNat
    then (⟨(sB s).getD p.toNat 0, s.extract (getV s (p + 1)).2.1.toNat ((getV s (p + 1)).2.1 + (getV s (p + 1)).1).toNat⟩, (getV s (p + 1)).2.1 + (getV s (p + 1)).1 + 4, 0) else (noF, 0, 4)

theorem ext_ext (s : ByteArray) (i j k l : Nat) (h : l ≤ j - i) : (s.extract i j).extract k l = s.extract (i + k) (i + l) := by
  apply sB_inj
  rw [sB_cut, sB_cut, sB_cut]
  apply List.ext_getElem?
  intro q
  simp only [List.getElem?_drop, List.getElem?_take]
  by_cases h1 : k + q < l
  · rw [if_pos h1, if_pos (by omega), if_pos (by omega)]; congr 1; omega
  · rw [if_neg h1, if_neg (by omega)]
theorem sAt_lt {s : ByteArray} {a : Nat} (h : a < s.size) : sAt s (a : Int) = some ((sB s).getD a 0) := by
  rw [sAt_eq, lAtn, List.getD_eq_getElem?_getD]
  have : a < (sB s).length := by rw [sB_len]; exact h
  rw [List.getElem?_eq_getElem this]; rfl
theorem sB_rng {s : ByteArray} {a : Nat} (h : a < s.size) : 0 ≤ (sB s).getD a 0 ∧ (sB s).getD a 0 ≤ 255 := by
  have : a < (sB s).length := by rw [sB_len]; exact h
  rw [List.getD_eq_getElem?_getD, List.getElem?_eq_getElem this]
  exact sB_mem (List.getElem_mem this)

theorem F_next (s : ByteArray) (p : Int) (hs : s.size ≤ 100000) : F_frame_Next s p = some (nextV s p) := by
  unfold F_frame_Next
  by_cases h0 : p < 0
  · rw [dct h0, cond_true]; unfold F_frame_Next_J1 nextV; rw [cond_true, if_pos (.inl h0)]; rfl
  rw [dcf h0, cond_false]
  by_cases h1 : (s.size : Int) < p
  · rw [dct h1]; unfold F_frame_Next_J1 nextV; rw [cond_true, if_pos (.inr h1)]; rfl
  rw [dcf h1]
  unfold F_frame_Next_J1 nextV
  rw [cond_false, if_neg (by omega)]
  by_cases h2 : p = s.size
  · rw [beqt h2, cond_true, if_pos h2]; rfl
  rw [beqf h2, cond_false, if_neg h2, w64i (by omega) (by omega), F_get _ _ (by omega)]
  show (some (getV s (p + 1))).bind _ = _
  simp only [Option.bind_some]
  by_cases h3 : (getV s (p + 1)).2.2 = 0
  · rw [show ((getV s (p + 1)).2.2 != 0) = false by simp [h3], cond_false, if_neg (by simpa using h3)]
    obtain ⟨u, nx, hg⟩ : ∃ u nx, getV s (p + 1) = (u, nx, 0) := ⟨(getV s (p + 1)).1, (getV s (p + 1)).2.1, by rw [← h3]⟩
    obtain ⟨a, ha, hb, hu0, hu1, rfl, htk⟩ := getV_ok hg
    rw [hg]
    simp only []
    obtain ⟨b, rfl⟩ := Int.eq_ofNat_of_zero_le (show 0 ≤ p by omega)
    have hab : a = b + 1 := by omega
    subst hab
    by_cases h4 : 1048576 < u
    · rw [dct h4, cond_true, if_pos h4]; rfl
    rw [dcf h4, cond_false, if_neg h4]
    obtain ⟨v, rfl⟩ := Int.eq_ofNat_of_zero_le hu0
    obtain ⟨n, hn⟩ : ∃ n, b + 1 + (numL (v : Int)).length = n := ⟨_, rfl⟩
    rw [hn] at hb ⊢
    rw [w64i (n := (s.size : Int) - (n : Int)) (by omega) (by omega), w64i (n := (v : Int)) (by omega) (by omega), w64i (n := (v : Int) + 4) (by omega) (by omega)]
    by_cases h5 : (s.size : Int) - (n : Int) < (v : Int) + 4
    · rw [dct h5, cond_true, if_pos h5]; rfl
    rw [dcf h5, cond_false, if_neg h5]
    rw [w64i (n := (n : Int) + (v : Int)) (by omega) (by omega), w64i (n := (n : Int) + (v : Int) + 4) (by omega) (by omega)]
    have e1 : Int.toNat ((n : Int) + (v : Int)) = n + v := by omega
    have e2 : Int.toNat ((n : Int) + (v : Int) + 4) = n + v + 4 := by omega
    rw [grd_t (by omega), e1, e2, Int.toNat_natCast, Int.toNat_natCast]
    have hsz : (s.extract b (n + v + 4)).size = n + v + 4 - b := by rw [ByteArray.size_extract]; omega
    have hnb : b < n := by omega
    rw [F_open _ (by rw [hsz]; omega)]
    simp only [Option.bind_some]
    have eo : openV (s.extract b (n + v + 4)) = if strOfNums (leN (moreN 0 (s.extract b (n + v)))) = s.extract (n + v) (n + v + 4) then (s.extract b (n + v), 0) else (⟨#[]⟩, 4) := by
      unfold openV
      rw [hsz, if_neg (by omega), ext_ext _ _ _ _ _ (by omega), ext_ext _ _ _ _ _ (by omega)]
      rw [show b + 0 = b by omega, show b + (n + v + 4 - b - 4) = n + v by omega, show b + (n + v + 4 - b) = n + v + 4 by omega]
    rw [eo]
    by_cases h6 : strOfNums (leN (moreN 0 (s.extract b (n + v)))) = s.extract (n + v) (n + v + 4)
    · rw [if_pos h6, if_pos h6]
      have hb' := sB_rng (s := s) (a := b) (by omega)
      simp only [bne_self_eq_false, cond_false]
      rw [sAt_lt (by omega)]
      simp only [Option.bind_some]
      rw [grd_t (by omega), w64i (by omega) (by omega)]
    · rw [if_neg h6, if_neg h6]; rfl
  · rw [show ((getV s (p + 1)).2.2 != 0) = true by simpa using h3, cond_true, if_pos h3]; rfl

theorem F_nextR (s : ByteArray) (p : Int) (hs : s.size ≤ 100000) : F_retraceref04_Next s p = some ⟨(nextV s p).1, (nextV s p).2.1, (nextV s p).2.2⟩ := by
  unfold F_retraceref04_Next
  by_cases h0 : p < 0
  · rw [dct h0, cond_true]; unfold F_retraceref04_Next_J1 nextV; rw [cond_true, if_pos (.inl h0)]; rfl
  rw [dcf h0, cond_false]
  by_cases h1 : (s.size : Int) < p
  · rw [dct h1]; unfold F_retraceref04_Next_J1 nextV; rw [cond_true, if_pos (.inr h1)]; rfl
  rw [dcf h1]
  unfold F_retraceref04_Next_J1 nextV
  rw [cond_false, if_neg (by omega)]
  by_cases h2 : p = s.size
  · rw [beqt h2, cond_true, if_pos h2]; rfl
  rw [beqf h2, cond_false, if_neg h2, w64i (by omega) (by omega), F_getR _ _ (by omega)]
  simp only [Option.bind_some, gotOf]
  by_cases h3 : (getV s (p + 1)).2.2 = 0
  · rw [show ((getV s (p + 1)).2.2 != 0) = false by simp [h3], cond_false, if_neg (by simpa using h3)]
    obtain ⟨u, nx, hg⟩ : ∃ u nx, getV s (p + 1) = (u, nx, 0) := ⟨(getV s (p + 1)).1, (getV s (p + 1)).2.1, by rw [← h3]⟩
    obtain ⟨a, ha, hb, hu0, hu1, rfl, htk⟩ := getV_ok hg
    rw [hg]
    simp only []
    obtain ⟨b, rfl⟩ := Int.eq_ofNat_of_zero_le (show 0 ≤ p by omega)
    have hab : a = b + 1 := by omega
    subst hab
    by_cases h4 : 1048576 < u
    · rw [dct h4, cond_true, if_pos h4]; rfl
    rw [dcf h4, cond_false, if_neg h4]
    obtain ⟨v, rfl⟩ := Int.eq_ofNat_of_zero_le hu0
    obtain ⟨n, hn⟩ : ∃ n, b + 1 + (numL (v : Int)).length = n := ⟨_, rfl⟩
    rw [hn] at hb ⊢
    rw [grd_t (by omega), w64i (n := (v : Int)) (by omega) (by omega), w64i (n := (v : Int) + 4) (by omega) (by omega)]
    have hr : (s.extract (Int.toNat (n : Int)) (Int.toNat (s.size : Int))).size = s.size - n := by rw [ByteArray.size_extract]; simp
    rw [hr]
    by_cases h5 : (s.size : Int) - (n : Int) < (v : Int) + 4
    · rw [dct (by omega), cond_true, if_pos h5]; rfl
    rw [dcf (by omega), cond_false, if_neg h5]
    rw [w64i (n := (n : Int) + (v : Int)) (by omega) (by omega), w64i (n := (n : Int) + (v : Int) + 4) (by omega) (by omega)]
    have e1 : Int.toNat ((n : Int) + (v : Int)) = n + v := by omega
    have e2 : Int.toNat ((n : Int) + (v : Int) + 4) = n + v + 4 := by omega
    have e3 : Int.toNat ((v : Int) + 4) = v + 4 := by omega
    have hnb : b < n := by omega
    rw [grd_t (by omega), e1, e2, Int.toNat_natCast, Int.toNat_natCast, F_sumR _ (by rw [ByteArray.size_extract]; omega)]
    simp only [Option.bind_some]
    rw [F_bytesR _ (moreN_lt (by decide) _)]
    simp only [Option.bind_some]
    rw [grd_t (by omega), eqS, e3, Int.toNat_natCast, Int.toNat_natCast, ext_ext _ _ _ _ _ (by omega)]
    by_cases h6 : strOfNums (leN (moreN 0 (s.extract b (n + v)))) = s.extract (n + v) (n + v + 4)
    · rw [dct (by rw [h6]; congr 1), if_pos h6]
      have hb' := sB_rng (s := s) (a := b) (by omega)
      simp only [Bool.not_true, cond_false]
      rw [sAt_lt (by omega)]
      simp only [Option.bind_some]
      rw [grd_t (by omega), w64i (by omega) (by omega), Int.toNat_zero, ext_ext _ _ _ _ _ (by omega)]
      rfl
    · rw [dcf (by rw [show n + (v + 4) = n + v + 4 by omega]; exact h6), if_neg h6]; rfl
  · rw [show ((getV s (p + 1)).2.2 != 0) = true by simpa using h3, cond_true, if_pos h3]; rfl
end Go.Ab
end
section
/- The laws of frames, plainly: puts, next. -/
namespace Go.Ab
set_option linter.unusedVariables false

def hdrB (k : Int) (d : ByteArray) : ByteArray := strOfNums [k] ++ strOfNums (numL d.size) ++ d
def frB (f : T_api_Frame) : ByteArray := hdrB f.Kind f.Data ++ strOfNums (leN (moreN 0 (hdrB f.Kind f.Data)))
theorem hdr_size (k : Int) (d : ByteArray) : (hdrB k d).size = 1 + (numL d.size).length + d.size := by
  unfold hdrB; rw [ByteArray.size_append, ByteArray.size_append, num_size, num_size]; rfl
def putV (f : T_api_Frame) : ByteArray × Int := if f.Kind < 0 ∨ 255 < f.Kind then (⟨#[]⟩, 1) else (frB f, 0)
theorem wu64n {n : Nat} (h : n ≤ 18446744073709551615) : wu64 (n : Int) = n := wu64_of (by omega) (by omega)
theorem wu8i {n : Int} (h0 : 0 ≤ n) (h1 : n ≤ 255) : wu8 n = n := wu8_of h0 (by omega)

theorem F_bytesF (f : T_api_Frame) (hs : f.Data.size ≤ 900000) : F_retraceref04_Bytes f = some (putV f) := by
  unfold F_retraceref04_Bytes
  by_cases h0 : f.Kind < 0
  · rw [dct h0, cond_true]; unfold F_retraceref04_Bytes_J1 putV; rw [cond_true, if_pos (.inl h0)]
  rw [dcf h0, cond_false]
  by_cases h1 : 255 < f.Kind
  · rw [dct h1]; unfold F_retraceref04_Bytes_J1 putV; rw [cond_true, if_pos (.inr h1)]
  rw [dcf h1]
  unfold F_retraceref04_Bytes_J1 putV
  rw [cond_false, if_neg (by omega), dcf (by omega), cond_false, wu8i (by omega) (by omega), wu64n (by omega)]
  have hn := (numL_len (f.Data.size : Int)).1
  rw [F_num (by omega) (by omega)]
  simp only [Option.bind_some]
  have := hdr_size f.Kind f.Data
  unfold hdrB at this
  rw [grd_t (by rw [num_size, num_size]; simp; omega), grd_t (by rw [ByteArray.size_append, num_size, num_size]; simp; omega), F_sumR _ (by rw [this]; omega)]
  simp only [Option.bind_some]
  rw [F_bytesR _ (moreN_lt (by decide) _)]
  simp only [Option.bind_some]
  rw [grd_t (by rw [this, leN_size]; omega)]
  rfl

end Go.Ab
end
section
/- What was put is told; what is told, put again, is the same bytes. -/
namespace Go.Ab
set_option linter.unusedVariables false

theorem ext_mid (A X B : ByteArray) : (A ++ X ++ B).extract A.size (A.size + X.size) = X := by
  apply sB_inj
  rw [sB_cut, sB_app, sB_app]
  apply List.ext_getElem?
  intro q
  simp only [List.getElem?_drop, List.getElem?_take]
  rcases Nat.lt_or_ge q X.size with h | h
  · rw [if_pos (by omega), List.getElem?_append_left (by rw [List.length_append, sB_len, sB_len]; omega), List.getElem?_append_right (by rw [sB_len]; omega), sB_len]
    congr 1; omega
  · rw [if_neg (by omega), List.getElem?_eq_none (by rw [sB_len]; exact h)]
theorem app_assoc (A B C : ByteArray) : A ++ B ++ C = A ++ (B ++ C) := by
  apply sB_inj; simp [sB_app, List.append_assoc]
theorem size_app (A B : ByteArray) : (A ++ B).size = A.size + B.size := ByteArray.size_append
theorem next_put (A B : ByteArray) (f : T_api_Frame) (hk0 : 0 ≤ f.Kind) (hk1 : f.Kind ≤ 255) (hs : f.Data.size ≤ 1048576) : nextV (A ++ frB f ++ B) (A.size : Int) = (f, ((A.size + (frB f).size : Nat) : Int), 0) := by
  have hsum := leN_size (moreN 0 (hdrB f.Kind f.Data))
  have hfs : (frB f).size = 1 + (numL f.Data.size).length + f.Data.size + 4 := by unfold frB; rw [size_app, hdr_size, hsum]
  have hsz : (A ++ frB f ++ B).size = A.size + (frB f).size + B.size := by rw [size_app, size_app]
  -- the parts
  have hL : sB (A ++ frB f ++ B) = sB A ++ ([f.Kind] ++ (numL f.Data.size ++ (sB f.Data ++ (sB (strOfNums (leN (moreN 0 (hdrB f.Kind f.Data)))) ++ sB B)))) := by
    unfold frB hdrB
    simp only [sB_app, List.append_assoc]
    rw [sB_num (l := [f.Kind]) (by simp; omega), sB_num (numL_mem (by omega) (by omega))]
  have hget : getV (A ++ frB f ++ B) (((A.size + 1 : Nat)) : Int) = ((f.Data.size : Int), ((A.size + 1 + (numL f.Data.size).length : Nat) : Int), 0) := by
    refine getV_fwd _ _ _ (sB f.Data ++ (sB (strOfNums (leN (moreN 0 (hdrB f.Kind f.Data)))) ++ sB B)) (by omega) (by omega) ?_
    rw [hL, ← List.append_assoc (sB A), List.drop_append, List.drop_eq_nil_of_le (by simp [sB_len])]
    simp [sB_len]
  have hbyte : (sB (A ++ frB f ++ B)).getD A.size 0 = f.Kind := by
    rw [hL, List.getD_eq_getElem?_getD, List.getElem?_append_right (by rw [sB_len]; omega), sB_len, Nat.sub_self]; rfl
  have e1 : (A ++ frB f ++ B).extract A.size (A.size + 1 + (numL f.Data.size).length + f.Data.size) = hdrB f.Kind f.Data := by
    have : A ++ frB f ++ B = A ++ hdrB f.Kind f.Data ++ (strOfNums (leN (moreN 0 (hdrB f.Kind f.Data))) ++ B) := by unfold frB; simp only [app_assoc]
    rw [this]
    have := ext_mid A (hdrB f.Kind f.Data) (strOfNums (leN (moreN 0 (hdrB f.Kind f.Data))) ++ B)
    rw [hdr_size] at this
    rw [show A.size + 1 + (numL f.Data.size).length + f.Data.size = A.size + (1 + (numL f.Data.size).length + f.Data.size) by omega]
    exact this
  have e2 : (A ++ frB f ++ B).extract (A.size + 1 + (numL f.Data.size).length + f.Data.size) (A.size + 1 + (numL f.Data.size).length + f.Data.size + 4) = strOfNums (leN (moreN 0 (hdrB f.Kind f.Data))) := by
    have : A ++ frB f ++ B = (A ++ hdrB f.Kind f.Data) ++ strOfNums (leN (moreN 0 (hdrB f.Kind f.Data))) ++ B := by unfold frB; simp only [app_assoc]
    rw [this]
    have := ext_mid (A ++ hdrB f.Kind f.Data) (strOfNums (leN (moreN 0 (hdrB f.Kind f.Data)))) B
    rw [size_app, hdr_size, hsum] at this
    rw [show A.size + 1 + (numL f.Data.size).length + f.Data.size = A.size + (1 + (numL f.Data.size).length + f.Data.size) by omega]
    exact this
  have e3 : (A ++ frB f ++ B).extract (A.size + 1 + (numL f.Data.size).length) (A.size + 1 + (numL f.Data.size).length + f.Data.size) = f.Data := by
    have : A ++ frB f ++ B = (A ++ strOfNums [f.Kind] ++ strOfNums (numL f.Data.size)) ++ f.Data ++ (strOfNums (leN (moreN 0 (hdrB f.Kind f.Data))) ++ B) := by unfold frB; rw [show hdrB f.Kind f.Data = strOfNums [f.Kind] ++ strOfNums (numL f.Data.size) ++ f.Data from rfl]; simp only [app_assoc]
    rw [this]
    have := ext_mid (A ++ strOfNums [f.Kind] ++ strOfNums (numL f.Data.size)) f.Data (strOfNums (leN (moreN 0 (hdrB f.Kind f.Data))) ++ B)
    rw [size_app, size_app, num_size, num_size] at this
    exact this
  unfold nextV
  rw [if_neg (by rw [hsz]; omega), if_neg (by rw [hsz, hfs]; omega), show ((A.size : Int) + 1) = ((A.size + 1 : Nat) : Int) by simp, hget]
  simp only []
  rw [if_neg (by simp), if_neg (by omega), if_neg (by rw [hsz, hfs]; omega)]
  have t1 : Int.toNat (((A.size + 1 + (numL f.Data.size).length : Nat) : Int) + (f.Data.size : Int)) = A.size + 1 + (numL f.Data.size).length + f.Data.size := by omega
  have t2 : Int.toNat (((A.size + 1 + (numL f.Data.size).length : Nat) : Int) + (f.Data.size : Int) + 4) = A.size + 1 + (numL f.Data.size).length + f.Data.size + 4 := by omega
  rw [t1, t2, Int.toNat_natCast, Int.toNat_natCast, e1, e2, if_pos rfl, e3, hbyte]
  simp only [Prod.mk.injEq, true_and, and_true]
  rw [hfs]; omega

set_option maxRecDepth 100000 in
theorem next_ok {s : ByteArray} {p e : Int} {f : T_api_Frame} (h : nextV s p = (f, e, 0)) : ∃ b : Nat, p = b ∧ 0 ≤ f.Kind ∧ f.Kind ≤ 255 ∧ f.Data.size ≤ 1048576 ∧ e = ((b + (frB f).size : Nat) : Int) ∧ b + (frB f).size ≤ s.size ∧ s.extract b (b + (frB f).size) = frB f := by
  unfold nextV at h
  split at h
  · cases h
  rename_i h0
  split at h
  · cases h
  rename_i h1
  split at h
  · rename_i h2; simp only [Prod.mk.injEq] at h; exact absurd h.2.2 h2
  rename_i h2
  split at h
  · cases h
  rename_i h3
  split at h
  · cases h
  rename_i h4
  split at h
  case isFalse => cases h
  rename_i h5
  obtain ⟨u, nx, hg⟩ : ∃ u nx, getV s (p + 1) = (u, nx, 0) := ⟨(getV s (p + 1)).1, (getV s (p + 1)).2.1, by
    have : (getV s (p + 1)).2.2 = 0 := by simpa using h2
    rw [← this]⟩
  obtain ⟨a, ha, hb, hu0, hu1, rfl, htk⟩ := getV_ok hg
  rw [hg] at h h3 h4 h5
  simp only [] at h h3 h4 h5
  obtain ⟨b, rfl⟩ := Int.eq_ofNat_of_zero_le (show 0 ≤ p by omega)
  have hab : a = b + 1 := by omega
  subst hab
  obtain ⟨v, rfl⟩ := Int.eq_ofNat_of_zero_le hu0
  obtain ⟨n, hn⟩ : ∃ n, b + 1 + (numL (v : Int)).length = n := ⟨_, rfl⟩
  rw [hn] at h h4 h5 hb
  have e1 : Int.toNat ((n : Int) + (v : Int)) = n + v := by omega
  have e2 : Int.toNat ((n : Int) + (v : Int) + 4) = n + v + 4 := by omega
  rw [e1, e2, Int.toNat_natCast] at h5
  rw [e1, Int.toNat_natCast, Int.toNat_natCast] at h
  simp only [Prod.mk.injEq, and_true] at h
  obtain ⟨rfl, rfl⟩ := h
  have hr := sB_rng (s := s) (a := b) (by omega)
  have hds : (s.extract n (n + v)).size = v := by rw [ByteArray.size_extract]; omega
  have hh : hdrB ((sB s).getD b 0) (s.extract n (n + v)) = s.extract b (n + v) := by
    apply sB_inj
    unfold hdrB
    rw [sB_app, sB_app, sB_num (l := [(sB s).getD b 0]) (by intro x hx; simp only [List.mem_singleton] at hx; subst hx; exact hr), hds, sB_num (numL_mem hu0 hu1), sB_cut, sB_cut]
    have d1 : (sB s).drop b = (sB s).getD b 0 :: (sB s).drop (b + 1) := by
      have hl : b < (sB s).length := by rw [sB_len]; omega
      rw [List.drop_eq_getElem_cons hl, List.getD_eq_getElem?_getD, List.getElem?_eq_getElem hl]; rfl
    have d2 : (sB s).drop (b + 1) = numL v ++ (sB s).drop n := by
      have := List.take_append_drop (numL (v : Int)).length ((sB s).drop (b + 1))
      rw [htk, List.drop_drop, hn] at this
      exact this.symm
    have d3 : (sB s).drop b = ([(sB s).getD b 0] ++ numL v) ++ (sB s).drop n := by rw [d1, d2]; rfl
    have l3 : ([(sB s).getD b 0] ++ numL (v : Int)).length = n - b := by rw [List.length_append]; simp; omega
    rw [List.drop_take, List.drop_take, d3, List.take_append, List.take_of_length_le (l := [(sB s).getD b 0] ++ numL (v : Int)) (by rw [l3]; omega), l3]
    rw [show n + v - b - (n - b) = n + v - n by omega]
  have hf : frB ⟨(sB s).getD b 0, s.extract n (n + v)⟩ = s.extract b (n + v + 4) := by
    unfold frB
    simp only []
    rw [hh, h5]
    apply sB_inj
    rw [sB_app, sB_cut, sB_cut, sB_cut]
    apply List.ext_getElem?
    intro q
    have l1 : (((sB s).take (n + v)).drop b).length = n + v - b := by rw [List.length_drop, List.length_take, sB_len]; omega
    rcases Nat.lt_or_ge q (n + v - b) with hq | hq
    · rw [List.getElem?_append_left (by rw [l1]; exact hq)]
      simp only [List.getElem?_drop, List.getElem?_take]
      rw [if_pos (by omega), if_pos (by omega)]
    · rw [List.getElem?_append_right (by rw [l1]; exact hq), l1]
      simp only [List.getElem?_drop, List.getElem?_take]
      by_cases hq2 : b + q < n + v + 4
      · rw [if_pos (by omega), if_pos hq2]; congr 1; omega
      · rw [if_neg (by omega), if_neg hq2]
  have hfs : (frB ⟨(sB s).getD b 0, s.extract n (n + v)⟩).size = n + v + 4 - b := by rw [hf, ByteArray.size_extract]; omega
  refine ⟨b, rfl, hr.1, hr.2, by rw [hds]; omega, ?_, ?_, ?_⟩
  · rw [hfs]; omega
  · rw [hfs]; omega
  · rw [hfs, hf]; congr 1; omega
end Go.Ab
end
section
/- Frames one behind the other. -/
namespace Go.Ab
set_option linter.unusedVariables false

def posL (l : List T_api_Frame) (k : Nat) : Nat := ((l.take k).map (fun f => (frB f).size)).sum
theorem posL_zero (l : List T_api_Frame) : posL l 0 = 0 := by simp [posL]
theorem posL_succ {l : List T_api_Frame} {k : Nat} {f : T_api_Frame} (h : l[k]? = some f) : posL l (k + 1) = posL l k + (frB f).size := by
  have hk := lt_of_getL h
  have : l[k] = f := by rw [List.getElem?_eq_getElem hk] at h; exact Option.some.inj h
  unfold posL
  rw [take_snoc hk, List.map_append, List.sum_append, this]; simp
theorem posL_app {l m : List T_api_Frame} {k : Nat} (h : k ≤ l.length) : posL (l ++ m) k = posL l k := by
  unfold posL; rw [List.take_append_of_le_length h]
theorem posL_mono {l : List T_api_Frame} {j k : Nat} (h : j ≤ k) : posL l j ≤ posL l k := by
  induction k with
  | zero => rw [show j = 0 by omega]; omega
  | succ k ih =>
    by_cases hj : j = k + 1
    · rw [hj]; omega
    · have := ih (by omega)
      cases hq : l[k]? with
      | some f => rw [posL_succ hq]; omega
      | none =>
        have hl : l.length ≤ k := List.getElem?_eq_none_iff.1 hq
        have e : posL l (k + 1) = posL l k := by unfold posL; rw [List.take_of_length_le hl, List.take_of_length_le (by omega)]
        omega
theorem frB_size (f : T_api_Frame) : (frB f).size = 1 + (numL f.Data.size).length + f.Data.size + 4 := by unfold frB; rw [size_app, hdr_size, leN_size]
def Chain (s : ByteArray) (l : List T_api_Frame) : Prop := ∀ (k : Nat) (f : T_api_Frame), l[k]? = some f → nextV s (posL l k : Int) = (f, (posL l (k + 1) : Int), 0)
theorem Chain.le {s : ByteArray} {l : List T_api_Frame} (h : Chain s l) : posL l l.length ≤ s.size := by
  cases hl : l.length with
  | zero => rw [posL_zero]; omega
  | succ n =>
    have hk : l[n]? = some (l[n]'(by omega)) := List.getElem?_eq_getElem (by omega)
    obtain ⟨b, hb, _, _, _, he, hle, _⟩ := next_ok (h n _ hk)
    rw [posL_succ hk]; omega
theorem Chain.ok {s : ByteArray} {l : List T_api_Frame} (h : Chain s l) {f : T_api_Frame} (hf : f ∈ l) : 0 ≤ f.Kind ∧ f.Kind ≤ 255 ∧ f.Data.size ≤ 1048576 := by
  obtain ⟨k, hk⟩ := List.getElem?_of_mem hf
  obtain ⟨b, _, h0, h1, h2, _⟩ := next_ok (h k f hk)
  exact ⟨h0, h1, h2⟩
theorem chain_snoc {s : ByteArray} {l : List T_api_Frame} (h : Chain s l) {f : T_api_Frame} {e : Int} (hn : nextV s (posL l l.length : Int) = (f, e, 0)) : Chain s (l ++ [f]) := by
  intro k g hg
  rcases Nat.lt_or_ge k l.length with hk | hk
  · rw [List.getElem?_append_left hk] at hg
    rw [posL_app (by omega), posL_app (by omega)]; exact h k g hg
  · have hk' : k = l.length := by
      have := lt_of_getL hg; simp at this; omega
    subst hk'
    have hs := posL_succ hg
    rw [List.getElem?_append_right (Nat.le_refl _), Nat.sub_self] at hg
    simp at hg; subst hg
    rw [hs, posL_app (Nat.le_refl _), hn]
    obtain ⟨b, hb, _, _, _, he, _⟩ := next_ok hn
    rw [he]
    have : b = posL l l.length := by omega
    rw [this]
def catF (l : List T_api_Frame) : ByteArray := strOfNums (l.flatMap fun f => sB (frB f))
theorem catF_snoc (l : List T_api_Frame) (f : T_api_Frame) : catF (l ++ [f]) = catF l ++ frB f := by
  unfold catF
  rw [List.flatMap_append, num_app]
  simp [num_sB]
theorem catF_size (l : List T_api_Frame) : ∀ k, k ≤ l.length → (catF (l.take k)).size = posL l k
  | 0, _ => by simp [catF, posL]; rfl
  | k + 1, h => by
    rw [take_snoc (by omega), catF_snoc, size_app, catF_size l k (by omega), posL_succ (List.getElem?_eq_getElem (by omega))]
set_option maxRecDepth 100000 in
set_option maxRecDepth 20000 in
theorem F_joinF (l : List T_api_Frame) (hl : l.length ≤ 60000) (hk : ∀ f ∈ l, 0 ≤ f.Kind ∧ f.Kind ≤ 255 ∧ f.Data.size ≤ 850000) : F_retraceref04_Joined l = some (catF l, (List.range (l.length + 1)).map fun k => (posL l k : Int)) := by
  have hpos : ∀ k, k ≤ l.length → posL l k ≤ k * 851000 := by
    intro k
    induction k with
    | zero => intro _; simp [posL_zero]
    | succ k ih =>
      intro h
      have hg := List.getElem?_eq_getElem (show k < l.length by omega)
      have h1 := hk _ (List.mem_of_getElem? hg)
      have h2 := (numL_len ((l[k]'(by omega)).Data.size : Int)).1
      have h3 := ih (by omega)
      rw [posL_succ hg, frB_size, Nat.succ_mul]; omega
  unfold F_retraceref04_Joined
  have := Loop_nat (step := fun q : (ByteArray × Int × (List Int)) => F_retraceref04_Joined_L1 l q.1 q.2.1 q.2.2) (fun k => (catF (l.take k), (k : Int), (List.range k).map fun k => (posL l k : Int))) l.length (r := (catF l, (List.range (l.length + 1)).map fun k => (posL l k : Int))) (fun k hk' => ?_) ?_
  · have e0 : strOfNums [] = (⟨#[]⟩ : ByteArray) := rfl
    simpa [catF, e0] using this
  · show F_retraceref04_Joined_L1 l (catF (l.take k)) (k : Int) ((List.range k).map fun k => (posL l k : Int)) = _
    have hg := List.getElem?_eq_getElem hk'
    have h1 := hk _ (List.mem_of_getElem? hg)
    have h2 := (numL_len (l[k].Data.size : Int)).1
    have h3 := hpos k (by omega)
    unfold F_retraceref04_Joined_L1
    rw [dct (by omega), cond_true, grd_t (by simp; omega), lAt_lt hk']
    simp only [Option.bind_some]
    rw [F_bytesF _ (by omega)]
    simp only [Option.bind_some]
    unfold putV
    rw [if_neg (by omega)]
    simp only []
    rw [grd_t (by rw [catF_size l k (by omega), frB_size]; omega), w64s (by omega), catF_size l k (by omega), take_snoc hk', catF_snoc, List.range_succ, List.map_append]
    rfl
  · show F_retraceref04_Joined_L1 l (catF (l.take l.length)) (l.length : Int) _ = _
    unfold F_retraceref04_Joined_L1
    rw [dcf (by omega), cond_false, grd_t (by simp; omega), catF_size l _ (Nat.le_refl _), List.take_length, List.range_succ (n := l.length), List.map_append]
    rfl
end Go.Ab
end
section
/- Which traces may be. -/
namespace Go.Ab
set_option linter.unusedVariables false
abbrev Tr := T_api_Trace
abbrev Mk := T_api_Mark
abbrev Fr := T_api_Frame
def noT : Tr := ⟨0, 0, 0, [], []⟩
def mkOk (ev : List Ev) (every : Int) (x : Mk × Nat) : Bool := (x.1.Step == (x.2 : Int) * every) && ((x.1.Events == beginV ev x.1.Step) && !decide (x.1.Events < 0))
def isB (t : Tr) : Bool := decide ((chk t.Events).2 = 0) && (!decide (t.Fuel < 0) && (!decide (1048576 < t.Fuel) && (!decide (t.Every < 1) && (!decide (1048576 < t.Every) && t.Marks.zipIdx.all (mkOk t.Events t.Every)))))
theorem mul_rng {k : Nat} {e : Int} (hk : k ≤ 60000) (h0 : ¬ e < 1) (h1 : ¬ 1048576 < e) : 0 ≤ (k : Int) * e ∧ (k : Int) * e ≤ 62914560000 := by
  have a := Int.mul_nonneg (show (0 : Int) ≤ k by omega) (show (0 : Int) ≤ e by omega)
  have b := Int.mul_le_mul (show (k : Int) ≤ 60000 by omega) (show e ≤ 1048576 by omega) (show (0 : Int) ≤ e by omega) (show (0 : Int) ≤ 60000 by omega)
  omega
theorem tchk_loop (t : Tr) (he : t.Events.length ≤ 60000) (hm : t.Marks.length ≤ 60000) (h0 : ¬ t.Every < 1) (h1 : ¬ 1048576 < t.Every) : Loop (fun s : (Int) => F_trace_Check_L3 t s) 0 = some (if t.Marks.zipIdx.all (mkOk t.Events t.Every) = true then 0 else 1) := by
  refine Loop_all t.Marks.zipIdx (by rw [List.length_zipIdx]; omega) (mkOk t.Events t.Every) 0 1 (fun k hk => ?_) ?_
  · rw [List.length_zipIdx] at hk
    have hr := mul_rng (k := k) (by omega) h0 h1
    show F_trace_Check_L3 t (k : Int) = _
    unfold F_trace_Check_L3 F_trace_Check_J2 mkOk
    rw [dct (by omega), lAt_lt hk, List.getElem_zipIdx, Nat.zero_add, w64i (n := (k : Int) * t.Every) (by omega) (by omega)]
    simp only [cond_true, Option.bind_some]
    by_cases hs : (t.Marks[k]).Step = (k : Int) * t.Every
    · rw [begin_eq _ _ (by omega) (by omega)]
      simp only [Option.bind_some, bne, beqt hs, Bool.not_true, cond_false, Bool.true_and]
      by_cases hv : (t.Marks[k]).Events = beginV t.Events (t.Marks[k]).Step
      · rw [beqt hv, beqt hv.symm]
        by_cases hn : (t.Marks[k]).Events < 0
        · rw [dct hn]; rfl
        · rw [dcf hn]; rfl
      · rw [beqf hv, beqf (fun e => hv e.symm)]; rfl
    · simp only [bne, beqf hs, Bool.not_false, cond_true, Bool.false_and]; rfl
  · show F_trace_Check_L3 t (t.Marks.zipIdx.length : Int) = _
    unfold F_trace_Check_L3
    rw [List.length_zipIdx, dcf (by omega)]; rfl
theorem F_tcheck (t : Tr) (he : t.Events.length ≤ 60000) (hm : t.Marks.length ≤ 60000) : F_trace_Check t = some (if isB t = true then 0 else 1) := by
  unfold F_trace_Check F_trace_Check_J1 isB
  rw [check_eq _ (by omega)]
  simp only [Option.bind_some]
  by_cases c1 : (chk t.Events).2 = 0
  · rw [decide_eq_true c1, show ((chk t.Events).2 != 0) = false by simp [c1], cond_false]
    by_cases c2 : t.Fuel < 0
    · rw [dct c2]; rfl
    rw [dcf c2, cond_false]
    by_cases c3 : 1048576 < t.Fuel
    · rw [dct c3]; rfl
    rw [dcf c3, cond_false]
    by_cases c4 : t.Every < 1
    · rw [dct c4]; rfl
    rw [dcf c4, cond_false]
    by_cases c5 : 1048576 < t.Every
    · rw [dct c5]; rfl
    rw [dcf c5, cond_false, tchk_loop t he hm c4 c5]
    cases t.Marks.zipIdx.all (mkOk t.Events t.Every) <;> rfl
  · rw [decide_eq_false c1, show ((chk t.Events).2 != 0) = true by simpa using c1]; rfl
theorem scan_all {α R : Type} (p : α → Bool) (e : Int) (yes no : R) : ∀ (l : List α) (s : Int), scan (fun s x => if p x = true then (.inl (s + e) : Int ⊕ R) else .inr no) (fun _ => yes) l s = if l.all p = true then yes else no
  | [], s => rfl
  | x :: l, s => by
    rw [scan, List.all_cons]
    cases hp : p x with
    | true => simpa using scan_all p e yes no l (s + e)
    | false => rfl
theorem tis_loop (t : Tr) (he : t.Events.length ≤ 60000) (hm : t.Marks.length ≤ 60000) (h0 : ¬ t.Every < 1) (h1 : ¬ 1048576 < t.Every) : Loop (fun s : (Int × Int) => F_retraceref32_Is_L3 t s.1 s.2) (0, 0) = some (t.Marks.zipIdx.all (mkOk t.Events t.Every)) := by
  have e := Loop_scan (step := fun s : (Int × Int) => F_retraceref32_Is_L3 t s.1 s.2) t.Marks.zipIdx (by rw [List.length_zipIdx]; omega) (fun (s : Int) x => if mkOk t.Events t.Every x = true then (.inl (s + t.Every) : Int ⊕ Bool) else .inr false) (fun _ => true) (fun s i => (s, i)) (fun k s => s = (k : Int) * t.Every)
    (fun k hk s hi => ?_) (fun k hk s s' hi e => ?_) (fun s hi => ?_) 0 (by simp)
  · rw [scan_all] at e
    rw [e]
    cases t.Marks.zipIdx.all (mkOk t.Events t.Every) <;> rfl
  · rw [List.length_zipIdx] at hk
    have hr := mul_rng (k := k) (by omega) h0 h1
    show F_retraceref32_Is_L3 t s (k : Int) = _
    unfold F_retraceref32_Is_L3 F_retraceref32_Is_J2 mkOk
    rw [dct (by omega), lAt_lt hk, List.getElem_zipIdx, Nat.zero_add]
    simp only [cond_true, Option.bind_some]
    have ew : w64 (s + t.Every) = s + t.Every := w64i (by omega) (by omega)
    rw [ew, rbegin_eq _ _ (by omega), hi]
    simp only [Option.bind_some, bne]
    by_cases hs : (t.Marks[k]).Step = (k : Int) * t.Every
    · rw [hs]
      simp only [beq_self_eq_true, Bool.not_true, cond_false, Bool.true_and]
      cases ((t.Marks[k]).Events == beginV t.Events ((k : Int) * t.Every)) <;> cases decide ((t.Marks[k]).Events < 0) <;> rfl
    · simp only [beqf hs, Bool.not_false, cond_true, Bool.false_and]; rfl
  · split at e
    · cases e
      rw [hi, Int.natCast_add, Int.add_mul]; simp
    · cases e
  · show F_retraceref32_Is_L3 t s (t.Marks.zipIdx.length : Int) = _
    unfold F_retraceref32_Is_L3
    rw [List.length_zipIdx, dcf (by omega)]; rfl
theorem F_tis (t : Tr) (he : t.Events.length ≤ 60000) (hm : t.Marks.length ≤ 60000) : F_retraceref32_Is t = some (isB t) := by
  unfold F_retraceref32_Is F_retraceref32_Is_J1 isB
  rw [right_eq _ (by omega)]
  simp only [Option.bind_some]
  by_cases c1 : (chk t.Events).2 = 0
  · rw [decide_eq_true c1, Bool.not_true, cond_false]
    by_cases c2 : t.Fuel < 0
    · rw [dct c2]; rfl
    rw [dcf c2, cond_false]
    by_cases c3 : 1048576 < t.Fuel
    · rw [dct c3]; rfl
    rw [dcf c3, cond_false]
    by_cases c4 : t.Every < 1
    · rw [dct c4]; rfl
    rw [dcf c4, cond_false]
    by_cases c5 : 1048576 < t.Every
    · rw [dct c5]; rfl
    rw [dcf c5, cond_false, tis_loop t he hm c4 c5]
    cases t.Marks.zipIdx.all (mkOk t.Events t.Every) <;> rfl
  · rw [decide_eq_false c1]; rfl
end Go.Ab
end
section
/- What a frame makes of a trace. -/
namespace Go.Ab
set_option linter.unusedVariables false
set_option maxRecDepth 10000
def zeroB (t : Tr) : Bool := (t.Sum == 0) && ((t.Fuel == 0) && ((t.Every == 0) && (t.Events.isEmpty && t.Marks.isEmpty)))
theorem eq_nilE (l : List Ev) (hl : l.length ≤ 60000) : F_slices_Equal_retrace_api_Event_retrace_api_Event l [] = some l.isEmpty := by
  unfold F_slices_Equal_retrace_api_Event_retrace_api_Event
  cases l with
  | nil => exact Loop_inr rfl
  | cons x l =>
    have : (((x :: l).length : Int) != (([] : List Ev).length : Int)) = true := by simp; omega
    rw [this]; rfl
theorem eq_nilM (l : List Mk) (hl : l.length ≤ 60000) : F_slices_EqualFunc_retrace_api_Mark_retrace_api_Mark_retrace_api_Mark_retrace_api_Mark l [] = some l.isEmpty := by
  unfold F_slices_EqualFunc_retrace_api_Mark_retrace_api_Mark_retrace_api_Mark_retrace_api_Mark
  cases l with
  | nil => exact Loop_inr rfl
  | cons x l =>
    have : (((x :: l).length : Int) != (([] : List Mk).length : Int)) = true := by simp; omega
    rw [this]; rfl
theorem F_tzero (t : Tr) (he : t.Events.length ≤ 60000) (hm : t.Marks.length ≤ 60000) : F_trace_zero t = some (zeroB t) := by
  unfold F_trace_zero F_trace_Same F_trace_Same_J1 zeroB
  simp only
  rw [eq_nilE _ he, eq_nilM _ hm]
  simp only [Option.bind_some]
  cases (t.Sum == 0) <;> cases (t.Fuel == 0) <;> cases (t.Every == 0) <;> cases t.Events.isEmpty <;> cases t.Marks.isEmpty <;> rfl
theorem F_zeroR (t : Tr) (he : t.Events.length ≤ 60000) (hm : t.Marks.length ≤ 60000) : F_retraceref32_Same t ⟨0, 0, 0, [], []⟩ = some (zeroB t) := by
  unfold F_retraceref32_Same F_retraceref32_Same_J1 zeroB
  simp only
  rw [sameE_eq t.Events [] (by omega) t.Events.isEmpty List.isEmpty_iff]
  simp only [Option.bind_some, bne]
  cases (t.Sum == 0) <;> cases (t.Fuel == 0) <;> cases (t.Every == 0) <;> cases t.Events.isEmpty <;> try rfl
  cases hq : t.Marks with
  | nil =>
    simp only [List.length_nil, beq_self_eq_true, Bool.not_true, cond_false, List.isEmpty_nil, Bool.and_self]
    refine Loop_inr ?_
    show F_retraceref32_Same_L3 t _ 0 = _
    unfold F_retraceref32_Same_L3
    rw [hq]; rfl
  | cons x l =>
    have : (((x :: l).length : Int) == (([] : List Mk).length : Int)) = false := by simp; omega
    rw [this]; rfl
def hdR : RD → (Int × Int × Int) × RD := pairR rNum (pairR (rUpto 1048576) (rUpto 1048576))
def mkR : RD → (Int × Int × Stt) × RD := pairR (rUpto 1048576) (pairR (rUpto 1048576) rState)
def nnR : RD → (Int × Int) × RD := pairR rNum rNum
def finT (ok : Bool) (x : Tr) : Tr × Int := if ok && isB x then (x, 0) else (noT, 3)
def errT (e : Int) (z : Tr × Int) : Tr × Int := if e ≠ 0 then (noT, e) else z
def nextT (t : Tr) (f : Fr) : Tr × Int :=
  if f.Kind = 1 then errT (endV (hdR ⟨f.Data, 0⟩).2) (finT (zeroB t && decide ((hdR ⟨f.Data, 0⟩).1.1 ≤ 4294967295)) ⟨wu32 (hdR ⟨f.Data, 0⟩).1.1, (hdR ⟨f.Data, 0⟩).1.2.1, (hdR ⟨f.Data, 0⟩).1.2.2, [], []⟩)
  else if f.Kind = 2 then errT (getEv f.Data).2 (finT (t.Every != 0) ⟨t.Sum, t.Fuel, t.Every, t.Events ++ (getEv f.Data).1, t.Marks⟩)
  else if f.Kind = 3 then errT (endV (mkR ⟨f.Data, 0⟩).2) (finT (t.Every != 0) ⟨t.Sum, t.Fuel, t.Every, t.Events, t.Marks ++ [⟨(mkR ⟨f.Data, 0⟩).1.1, (mkR ⟨f.Data, 0⟩).1.2.1, (mkR ⟨f.Data, 0⟩).1.2.2⟩]⟩)
  else if f.Kind = 4 then errT (endV (nnR ⟨f.Data, 0⟩).2) (finT ((t.Every != 0) && (((nnR ⟨f.Data, 0⟩).1.1 == (t.Events.length : Int)) && ((nnR ⟨f.Data, 0⟩).1.2 == (t.Marks.length : Int)))) t)
  else (noT, 3)
theorem lcut_all {α : Type} (l : List α) : lCut l 0 (l.length : Int) = l := by
  unfold lCut
  simp
theorem F_copied (t : Tr) : F_trace_copied t = some t := by
  unfold F_trace_copied F_slices_Clip_retrace_api_Event_retrace_api_Event F_slices_Clip_retrace_api_Mark_retrace_api_Mark
  rw [grd_t ⟨Int.le_refl _, by omega, by omega, rfl⟩, grd_t ⟨Int.le_refl _, by omega, by omega, rfl⟩, lcut_all, lcut_all]; rfl
theorem fin_J {x : Tr} {J : Bool → Option (Tr × Int)} (he : x.Events.length ≤ 60000) (hm : x.Marks.length ≤ 60000) (h1 : J true = some (noT, 3)) (h0 : J false = some (x, 0)) : ((F_trace_Check x).bind fun y => J (y != 0)) = some (finT true x) := by
  rw [F_tcheck x he hm]
  simp only [Option.bind_some]
  unfold finT
  cases isB x
  · exact h1
  · exact h0
theorem getEv_len (s : ByteArray) (hs : s.size ≤ 10000) : (getEv s).1.length ≤ s.size + 1 := by
  unfold getEv
  split
  · exact Nat.zero_le _
  · split
    · exact Nat.zero_le _
    · have h1 := evMany_len (rUpto 65536 ⟨s, 0⟩).1.toNat (rUpto 65536 ⟨s, 0⟩).2
      have h2 := (rUpto_ok 65536 (by omega) ⟨s, 0⟩).2.2
      have h3 : (rUpto 65536 ⟨s, 0⟩).2.s.size ≤ s.size := h2
      exact Nat.le_trans h1.1 (by omega)
theorem F_tnext_1 (t : Tr) (f : Fr) (he : t.Events.length ≤ 50000) (hm : t.Marks.length ≤ 50000) (hd : f.Data.size ≤ 2600) (k1 : f.Kind = 1) : F_trace_Next t f = some (nextT t f) := by
  unfold F_trace_Next nextT
  rw [beqt k1, cond_true, if_pos k1]
  have s1 := (rNum_size ⟨f.Data, 0⟩).1
  have s1 : (rNum ⟨f.Data, 0⟩).2.s.size ≤ f.Data.size := s1
  have s2 := (rUpto_ok 1048576 (by omega) (rNum ⟨f.Data, 0⟩).2).2.2
  unfold F_trace_Next_J1 F_trace_Next_J3 F_trace_Next_J2 F_trace_head F_trace_head_J1 F_wire_Open
  rw [F_copied]
  simp only [Option.bind_some]
  rw [F_rNum _ (by show f.Data.size ≤ _; omega)]
  simp only [Option.bind_some]
  rw [F_rUpto 1048576 (by omega) _ (by omega)]
  simp only [Option.bind_some]
  rw [F_rUpto 1048576 (by omega) _ (by omega)]
  simp only [Option.bind_some]
  rw [F_rEnd]
  simp only [Option.bind_some]
  show _ = some (errT (endV (rUpto 1048576 (rUpto 1048576 (rNum ⟨f.Data, 0⟩).2).2).2) (finT (zeroB t && decide ((rNum ⟨f.Data, 0⟩).1 ≤ 4294967295)) ⟨wu32 (rNum ⟨f.Data, 0⟩).1, (rUpto 1048576 (rNum ⟨f.Data, 0⟩).2).1, (rUpto 1048576 (rUpto 1048576 (rNum ⟨f.Data, 0⟩).2).2).1, [], []⟩))
  generalize endV (rUpto 1048576 (rUpto 1048576 (rNum ⟨f.Data, 0⟩).2).2).2 = e
  unfold errT
  by_cases h0 : e = 0
  · subst h0
    rw [if_neg (by simp)]
    have hz := F_tzero t (by omega) (by omega)
    simp only [bne_self_eq_false, cond_false]
    rw [show F_trace_zero ⟨t.Sum, t.Fuel, t.Every, t.Events, t.Marks⟩ = some (zeroB t) from hz]
    simp only [Option.bind_some]
    have k1' : (f.Kind != 1) = false := by simp [k1]
    cases hzz : zeroB t with
    | false => simp [finT]; rfl
    | true =>
      simp only [Bool.not_true, cond_false, Bool.true_and]
      by_cases hn : 4294967295 < (rNum ⟨f.Data, 0⟩).1
      · rw [dct hn, dcf (show ¬ (rNum ⟨f.Data, 0⟩).1 ≤ 4294967295 by omega)]; rfl
      · rw [dcf hn, dct (show (rNum ⟨f.Data, 0⟩).1 ≤ 4294967295 by omega)]
        simp only [cond_false, Option.bind_some, bne_self_eq_false, k1']
        exact fin_J (J := fun b => cond b (some (⟨0, 0, 0, [], []⟩, 3)) (some (⟨wu32 (rNum ⟨f.Data, 0⟩).1, (rUpto 1048576 (rNum ⟨f.Data, 0⟩).2).1, (rUpto 1048576 (rUpto 1048576 (rNum ⟨f.Data, 0⟩).2).2).1, [], []⟩, 0))) (by simp) (by simp) rfl rfl
  · rw [if_pos h0]
    have : (e != 0) = true := by simpa using h0
    simp only [this, cond_true, Option.bind_some]; rfl
theorem F_tnext_2 (t : Tr) (f : Fr) (he : t.Events.length ≤ 50000) (hm : t.Marks.length ≤ 50000) (hd : f.Data.size ≤ 2600) (k1 : ¬ f.Kind = 1) (k2 : f.Kind = 2) : F_trace_Next t f = some (nextT t f) := by
  unfold F_trace_Next nextT
  rw [beqf k1, cond_false, if_neg k1]
  rw [beqt k2, cond_true, if_pos k2]
  have hl := getEv_len f.Data (by omega)
  unfold F_trace_Next_J4 F_trace_Next_J6 F_trace_Next_J5 F_trace_events
  rw [F_copied]
  simp only [Option.bind_some]
  rw [(get_eq f.Data (by omega)).1]
  simp only [Option.bind_some]
  unfold errT
  by_cases h0 : (getEv f.Data).2 = 0
  · rw [if_neg (fun x => x h0)]
    have e0 : ((getEv f.Data).2 != 0) = false := by simp [h0]
    have k1' : (f.Kind != 1) = true := by simpa using k1
    rw [e0, cond_false, grd_t (by omega)]
    simp only [Option.bind_some, bne_self_eq_false, cond_false, k1', cond_true]
    by_cases hz : t.Every = 0
    · rw [beqt hz]
      have : (t.Every != 0) = false := by simp [hz]
      rw [this]; rfl
    · rw [beqf hz, cond_false]
      have : (t.Every != 0) = true := by simpa using hz
      rw [this]
      exact fin_J (J := fun b => cond b (some (⟨0, 0, 0, [], []⟩, 3)) (some (⟨t.Sum, t.Fuel, t.Every, t.Events ++ (getEv f.Data).1, t.Marks⟩, 0))) (by simp only [List.length_append]; omega) (by simp only; omega) rfl rfl
  · rw [if_pos h0]
    have e0 : ((getEv f.Data).2 != 0) = true := by simpa using h0
    simp only [e0, cond_true, Option.bind_some]; rfl
theorem F_tnext_3 (t : Tr) (f : Fr) (he : t.Events.length ≤ 50000) (hm : t.Marks.length ≤ 50000) (hd : f.Data.size ≤ 2600) (k1 : ¬ f.Kind = 1) (k2 : ¬ f.Kind = 2) (k3 : f.Kind = 3) : F_trace_Next t f = some (nextT t f) := by
  unfold F_trace_Next nextT
  rw [beqf k1, cond_false, if_neg k1]
  rw [beqf k2, cond_false, if_neg k2]
  rw [beqt k3, cond_true, if_pos k3]
  have s1 := (rUpto_ok 1048576 (by omega) ⟨f.Data, 0⟩).2.2
  have q1 : (rUpto 1048576 ⟨f.Data, 0⟩).2.s.size ≤ 2600 := Nat.le_trans s1 hd
  have q2 : (rUpto 1048576 (rUpto 1048576 ⟨f.Data, 0⟩).2).2.s.size ≤ 2600 := Nat.le_trans (rUpto_ok 1048576 (by omega) (rUpto 1048576 ⟨f.Data, 0⟩).2).2.2 q1
  clear s1
  unfold F_trace_Next_J7 F_trace_Next_J9 F_trace_Next_J8 F_trace_mark F_wire_Open
  rw [F_copied]
  simp only [Option.bind_some]
  rw [F_rUpto 1048576 (by omega) _ (by show f.Data.size ≤ _; omega)]
  simp only [Option.bind_some]
  rw [F_rUpto 1048576 ⟨by decide, by decide⟩ _ (Nat.le_trans q1 (by decide))]
  simp only [Option.bind_some]
  rw [F_read _ (Nat.le_trans q2 (by decide))]
  simp only [Option.bind_some]
  rw [F_rEnd]
  simp only [Option.bind_some]
  clear q1 q2
  simp only [mkR, pairR]
  generalize (rUpto 1048576 ⟨f.Data, 0⟩).1 = a
  generalize (rUpto 1048576 (rUpto 1048576 ⟨f.Data, 0⟩).2).1 = b
  generalize rState (rUpto 1048576 (rUpto 1048576 ⟨f.Data, 0⟩).2).2 = R
  unfold errT
  by_cases h0 : endV R.2 = 0
  · rw [if_neg (fun x => x h0)]
    have e0 : (endV R.2 != 0) = false := by simp [h0]
    have k1' : (f.Kind != 1) = true := by simpa using k1
    rw [e0, cond_false, grd_t (by simp only [List.length_cons, List.length_nil]; omega)]
    simp only [Option.bind_some, bne_self_eq_false, cond_false, k1', cond_true]
    by_cases hz : t.Every = 0
    · rw [beqt hz]
      have : (t.Every != 0) = false := by simp [hz]
      rw [this]; rfl
    · rw [beqf hz, cond_false]
      have : (t.Every != 0) = true := by simpa using hz
      rw [this]
      have fj := fin_J (x := (⟨t.Sum, t.Fuel, t.Every, t.Events, t.Marks ++ [⟨a, b, R.1⟩]⟩ : Tr)) (J := fun z => cond z (some (⟨0, 0, 0, [], []⟩, 3)) (some (⟨t.Sum, t.Fuel, t.Every, t.Events, t.Marks ++ [⟨a, b, R.1⟩]⟩, 0))) (by simp only; omega) (by simp only [List.length_append, List.length_cons, List.length_nil]; omega) rfl rfl
      exact fj
  · rw [if_pos h0]
    have e0 : (endV R.2 != 0) = true := by simpa using h0
    simp only [e0, cond_true, Option.bind_some]; rfl
theorem F_tnext_4 (t : Tr) (f : Fr) (he : t.Events.length ≤ 50000) (hm : t.Marks.length ≤ 50000) (hd : f.Data.size ≤ 2600) (k1 : ¬ f.Kind = 1) (k2 : ¬ f.Kind = 2) (k3 : ¬ f.Kind = 3) (k4 : f.Kind = 4) : F_trace_Next t f = some (nextT t f) := by
  unfold F_trace_Next nextT
  rw [beqf k1, cond_false, if_neg k1]
  rw [beqf k2, cond_false, if_neg k2]
  rw [beqf k3, cond_false, if_neg k3]
  rw [beqt k4, cond_true, if_pos k4]
  have s1 := (rNum_size ⟨f.Data, 0⟩).1
  have s1 : (rNum ⟨f.Data, 0⟩).2.s.size ≤ f.Data.size := s1
  unfold F_trace_Next_J10 F_trace_Next_J12 F_trace_Next_J11 F_trace_end F_trace_end_J1 F_wire_Open
  rw [F_copied]
  simp only [Option.bind_some]
  rw [F_rNum _ (by show f.Data.size ≤ _; omega)]
  simp only [Option.bind_some]
  rw [F_rNum _ (by omega)]
  simp only [Option.bind_some]
  rw [F_rEnd]
  simp only [Option.bind_some]
  rw [wu64_of (by omega) (by omega), wu64_of (by omega) (by omega)]
  show _ = some (errT (endV (rNum (rNum ⟨f.Data, 0⟩).2).2) (finT ((t.Every != 0) && (((rNum ⟨f.Data, 0⟩).1 == (t.Events.length : Int)) && ((rNum (rNum ⟨f.Data, 0⟩).2).1 == (t.Marks.length : Int)))) t))
  generalize (rNum ⟨f.Data, 0⟩).1 = a
  generalize rNum (rNum ⟨f.Data, 0⟩).2 = R
  unfold errT
  by_cases h0 : endV R.2 = 0
  · rw [if_neg (fun x => x h0)]
    have e0 : (endV R.2 != 0) = false := by simp [h0]
    have k1' : (f.Kind != 1) = true := by simpa using k1
    rw [e0, cond_false]
    by_cases ha : a = (t.Events.length : Int)
    · rw [show (a != (t.Events.length : Int)) = false by simp [ha], cond_false, beqt ha]
      by_cases hb : R.1 = (t.Marks.length : Int)
      · rw [show (R.1 != (t.Marks.length : Int)) = false by simp [hb], beqt hb]
        simp only [cond_false, Option.bind_some, bne_self_eq_false, k1', cond_true, Bool.and_true]
        by_cases hz : t.Every = 0
        · rw [beqt hz]
          have : (t.Every != 0) = false := by simp [hz]
          rw [this]; rfl
        · rw [beqf hz, cond_false]
          have : (t.Every != 0) = true := by simpa using hz
          rw [this]
          exact fin_J (x := t) (J := fun z => cond z (some (⟨0, 0, 0, [], []⟩, 3)) (some (t, 0))) (by omega) (by omega) rfl rfl
      · rw [show (R.1 != (t.Marks.length : Int)) = true by simpa using hb, beqf hb]
        simp only [cond_true, Option.bind_some, Bool.and_false]
        rfl
    · rw [show (a != (t.Events.length : Int)) = true by simpa using ha, beqf ha]
      simp only [cond_true, Option.bind_some, Bool.false_and, Bool.and_false]
      rfl
  · rw [if_pos h0]
    have e0 : (endV R.2 != 0) = true := by simpa using h0
    simp only [e0, cond_true, Option.bind_some]; rfl
theorem F_tnext (t : Tr) (f : Fr) (he : t.Events.length ≤ 50000) (hm : t.Marks.length ≤ 50000) (hd : f.Data.size ≤ 2600) : F_trace_Next t f = some (nextT t f) := by
  by_cases k1 : f.Kind = 1
  · exact F_tnext_1 t f he hm hd k1
  by_cases k2 : f.Kind = 2
  · exact F_tnext_2 t f he hm hd k1 k2
  by_cases k3 : f.Kind = 3
  · exact F_tnext_3 t f he hm hd k1 k2 k3
  by_cases k4 : f.Kind = 4
  · exact F_tnext_4 t f he hm hd k1 k2 k3 k4
  unfold F_trace_Next nextT
  rw [beqf k1, cond_false, if_neg k1, beqf k2, cond_false, if_neg k2, beqf k3, cond_false, if_neg k3, beqf k4, cond_false, if_neg k4]
  rfl
theorem fin_R {x : Tr} (he : x.Events.length ≤ 60000) (hm : x.Marks.length ≤ 60000) (ok : Bool) (r : RD) : F_retraceref32_Next_J1 ok r.s r.e x.Sum x.Fuel x.Every x.Events x.Marks = some ⟨(errT (endV r) (finT ok x)).1, (errT (endV r) (finT ok x)).2⟩ := by
  unfold F_retraceref32_Next_J1 F_retraceref32_Next_J2
  have h1 : F_retraceref03_Reader_End ⟨r.s, r.e⟩ = some (endV r) := F_rEndR r
  have h2 : F_retraceref32_Is ⟨x.Sum, x.Fuel, x.Every, x.Events, x.Marks⟩ = some (isB x) := F_tis x he hm
  rw [h1, h2]
  simp only [Option.bind_some]
  unfold errT
  by_cases h0 : endV r = 0
  · rw [if_neg (fun y => y h0)]
    have e0 : (endV r != 0) = false := by simp [h0]
    rw [e0, cond_false]
    unfold finT
    cases ok <;> cases isB x <;> rfl
  · rw [if_pos h0]
    have e0 : (endV r != 0) = true := by simpa using h0
    rw [e0]; rfl
theorem F_tnextR_1 (t : Tr) (f : Fr) (he : t.Events.length ≤ 50000) (hm : t.Marks.length ≤ 50000) (hd : f.Data.size ≤ 2600) (k1 : f.Kind = 1) : F_retraceref32_Next t f = some ⟨(nextT t f).1, (nextT t f).2⟩ := by
  unfold F_retraceref32_Next nextT
  rw [beqt k1, cond_true, if_pos k1]
  have s1 := (rNum_size ⟨f.Data, 0⟩).1
  have s1 : (rNum ⟨f.Data, 0⟩).2.s.size ≤ f.Data.size := s1
  have s2 := (rUpto_ok 1048576 (by omega) (rNum ⟨f.Data, 0⟩).2).2.2
  have h1 : F_retraceref03_Reader_Num ⟨f.Data, 0⟩ = some ((rNum ⟨f.Data, 0⟩).1, rr (rNum ⟨f.Data, 0⟩).2) := F_rNumR ⟨f.Data, 0⟩ (by show f.Data.size ≤ _; omega)
  rw [h1]
  simp only [Option.bind_some]
  rw [F_rUptoR 1048576 (by omega) _ (by omega)]
  simp only [Option.bind_some]
  rw [F_rUptoR 1048576 (by omega) _ (by omega)]
  simp only [Option.bind_some]
  rw [F_zeroR t (by omega) (by omega)]
  simp only [Option.bind_some]
  have R := fun ok => fin_R (x := (⟨wu32 (rNum ⟨f.Data, 0⟩).1, (rUpto 1048576 (rNum ⟨f.Data, 0⟩).2).1, (rUpto 1048576 (rUpto 1048576 (rNum ⟨f.Data, 0⟩).2).2).1, [], []⟩ : Tr)) (by simp) (by simp) ok (rUpto 1048576 (rUpto 1048576 (rNum ⟨f.Data, 0⟩).2).2).2
  by_cases hn : (rNum ⟨f.Data, 0⟩).1 < 4294967296
  · rw [dct hn, cond_true]
    have hq : decide ((hdR ⟨f.Data, 0⟩).1.1 ≤ 4294967295) = true := decide_eq_true (by show (rNum ⟨f.Data, 0⟩).1 ≤ 4294967295; omega)
    rw [hq, Bool.and_true]
    exact R (zeroB t)
  · rw [dcf hn, cond_false]
    have hq : decide ((hdR ⟨f.Data, 0⟩).1.1 ≤ 4294967295) = false := decide_eq_false (by show ¬ (rNum ⟨f.Data, 0⟩).1 ≤ 4294967295; omega)
    rw [hq, Bool.and_false]
    exact R false
theorem F_tnextR_2 (t : Tr) (f : Fr) (he : t.Events.length ≤ 50000) (hm : t.Marks.length ≤ 50000) (hd : f.Data.size ≤ 2600) (k1 : ¬ f.Kind = 1) (k2 : f.Kind = 2) : F_retraceref32_Next t f = some ⟨(nextT t f).1, (nextT t f).2⟩ := by
  unfold F_retraceref32_Next nextT
  rw [beqf k1, cond_false, if_neg k1]
  rw [beqt k2, cond_true, if_pos k2]
  have hl := getEv_len f.Data (by omega)
  rw [(get_eq f.Data (by omega)).2]
  simp only [Option.bind_some]
  by_cases h0 : (getEv f.Data).2 = 0
  · have e0 : ((getEv f.Data).2 != 0) = false := by simp [h0]
    rw [e0, cond_false, grd_t (by simp only [List.length_nil]; omega), grd_t (by simp only [List.nil_append]; omega), List.nil_append]
    have R := fin_R (x := (⟨t.Sum, t.Fuel, t.Every, t.Events ++ (getEv f.Data).1, t.Marks⟩ : Tr)) (by simp only [List.length_append]; omega) (by simp only; omega) (t.Every != 0) ⟨⟨#[]⟩, 0⟩
    have e1 : endV ⟨⟨#[]⟩, 0⟩ = 0 := rfl
    rw [e1] at R
    unfold errT at R ⊢
    rw [if_neg (fun x => x h0)]
    rw [if_neg (by simp)] at R
    exact R
  · have e0 : ((getEv f.Data).2 != 0) = true := by simpa using h0
    unfold errT
    rw [e0, if_pos h0]; rfl
theorem F_tnextR_3 (t : Tr) (f : Fr) (he : t.Events.length ≤ 50000) (hm : t.Marks.length ≤ 50000) (hd : f.Data.size ≤ 2600) (k1 : ¬ f.Kind = 1) (k2 : ¬ f.Kind = 2) (k3 : f.Kind = 3) : F_retraceref32_Next t f = some ⟨(nextT t f).1, (nextT t f).2⟩ := by
  unfold F_retraceref32_Next nextT
  rw [beqf k1, cond_false, if_neg k1]
  rw [beqf k2, cond_false, if_neg k2]
  rw [beqt k3, cond_true, if_pos k3]
  have s1 := (rUpto_ok 1048576 (by omega) ⟨f.Data, 0⟩).2.2
  have q1 : (rUpto 1048576 ⟨f.Data, 0⟩).2.s.size ≤ 2600 := Nat.le_trans s1 hd
  have q2 : (rUpto 1048576 (rUpto 1048576 ⟨f.Data, 0⟩).2).2.s.size ≤ 2600 := Nat.le_trans (rUpto_ok 1048576 (by omega) (rUpto 1048576 ⟨f.Data, 0⟩).2).2.2 q1
  clear s1
  have h1 : F_retraceref03_Reader_Upto 1048576 ⟨f.Data, 0⟩ = some ((rUpto 1048576 ⟨f.Data, 0⟩).1, rr (rUpto 1048576 ⟨f.Data, 0⟩).2) := F_rUptoR 1048576 (by omega) ⟨f.Data, 0⟩ (by show f.Data.size ≤ _; omega)
  rw [h1]
  simp only [Option.bind_some]
  rw [F_rUptoR 1048576 ⟨by decide, by decide⟩ _ (Nat.le_trans q1 (by decide))]
  simp only [Option.bind_some]
  rw [F_readR _ (Nat.le_trans q2 (by decide))]
  simp only [Option.bind_some]
  rw [grd_t (by simp only [List.length_nil]; omega), grd_t (by simp only [List.nil_append, List.length_cons, List.length_nil]; omega), List.nil_append]
  clear q1 q2
  simp only [mkR, pairR]
  generalize (rUpto 1048576 ⟨f.Data, 0⟩).1 = a
  generalize (rUpto 1048576 (rUpto 1048576 ⟨f.Data, 0⟩).2).1 = b
  generalize rState (rUpto 1048576 (rUpto 1048576 ⟨f.Data, 0⟩).2).2 = R
  have fr := fin_R (x := (⟨t.Sum, t.Fuel, t.Every, t.Events, t.Marks ++ [⟨a, b, R.1⟩]⟩ : Tr)) (by simp only; omega) (by simp only [List.length_append, List.length_cons, List.length_nil]; omega) (t.Every != 0) R.2
  exact fr
theorem F_tnextR_4 (t : Tr) (f : Fr) (he : t.Events.length ≤ 50000) (hm : t.Marks.length ≤ 50000) (hd : f.Data.size ≤ 2600) (k1 : ¬ f.Kind = 1) (k2 : ¬ f.Kind = 2) (k3 : ¬ f.Kind = 3) (k4 : f.Kind = 4) : F_retraceref32_Next t f = some ⟨(nextT t f).1, (nextT t f).2⟩ := by
  unfold F_retraceref32_Next nextT
  rw [beqf k1, cond_false, if_neg k1]
  rw [beqf k2, cond_false, if_neg k2]
  rw [beqf k3, cond_false, if_neg k3]
  rw [beqt k4, cond_true, if_pos k4]
  have s1 := (rNum_size ⟨f.Data, 0⟩).1
  have s1 : (rNum ⟨f.Data, 0⟩).2.s.size ≤ f.Data.size := s1
  have h1 : F_retraceref03_Reader_Num ⟨f.Data, 0⟩ = some ((rNum ⟨f.Data, 0⟩).1, rr (rNum ⟨f.Data, 0⟩).2) := F_rNumR ⟨f.Data, 0⟩ (by show f.Data.size ≤ _; omega)
  rw [h1]
  simp only [Option.bind_some]
  rw [F_rNumR _ (by omega)]
  simp only [Option.bind_some]
  rw [wu64_of (by omega) (by omega), wu64_of (by omega) (by omega)]
  have R := fun ok => fin_R (x := t) (by omega) (by omega) ok (rNum (rNum ⟨f.Data, 0⟩).2).2
  show _ = some (⟨(errT (endV (rNum (rNum ⟨f.Data, 0⟩).2).2) (finT ((t.Every != 0) && (((rNum ⟨f.Data, 0⟩).1 == (t.Events.length : Int)) && ((rNum (rNum ⟨f.Data, 0⟩).2).1 == (t.Marks.length : Int)))) t)).1, (errT (endV (rNum (rNum ⟨f.Data, 0⟩).2).2) (finT ((t.Every != 0) && (((rNum ⟨f.Data, 0⟩).1 == (t.Events.length : Int)) && ((rNum (rNum ⟨f.Data, 0⟩).2).1 == (t.Marks.length : Int)))) t)).2⟩ : T_retraceref32_Got)
  cases (t.Every != 0) with
  | false => exact R false
  | true =>
    rw [cond_true, Bool.true_and]
    cases ((rNum ⟨f.Data, 0⟩).1 == (t.Events.length : Int)) with
    | false => exact R false
    | true => rw [cond_true, Bool.true_and]; exact R _
theorem F_tnextR (t : Tr) (f : Fr) (he : t.Events.length ≤ 50000) (hm : t.Marks.length ≤ 50000) (hd : f.Data.size ≤ 2600) : F_retraceref32_Next t f = some ⟨(nextT t f).1, (nextT t f).2⟩ := by
  by_cases k1 : f.Kind = 1
  · exact F_tnextR_1 t f he hm hd k1
  by_cases k2 : f.Kind = 2
  · exact F_tnextR_2 t f he hm hd k1 k2
  by_cases k3 : f.Kind = 3
  · exact F_tnextR_3 t f he hm hd k1 k2 k3
  by_cases k4 : f.Kind = 4
  · exact F_tnextR_4 t f he hm hd k1 k2 k3 k4
  unfold F_retraceref32_Next nextT
  rw [beqf k1, cond_false, if_neg k1, beqf k2, cond_false, if_neg k2, beqf k3, cond_false, if_neg k3, beqf k4, cond_false, if_neg k4]
  rfl
end Go.Ab
end
section
/- A trace's frames. -/
namespace Go.Ab
set_option linter.unusedVariables false
set_option maxRecDepth 10000
def partF (l : List Ev) : List Fr := if l = [] then [] else [⟨2, strOfNums (evsL l)⟩]
def markD (m : Mk) : ByteArray := strOfNums (numL m.Step ++ (numL m.Events ++ stateL m.State))
def stepF (ev : List Ev) (s : List Fr × Int) (m : Mk) : List Fr × Int := (s.1 ++ partF (lCut ev s.2 m.Events) ++ [⟨3, markD m⟩], m.Events)
structure MkOk (m : Mk) : Prop where
  s : 0 ≤ m.Step ∧ m.Step ≤ 1048576
  e : 0 ≤ m.Events ∧ m.Events ≤ 1048576
  b : SB m.State
  k : okSt m.State
  l : (stateL m.State).length ≤ 3000
structure PTr (t : Tr) : Prop where
  e : t.Events.length ≤ 20000
  ek : okEvs t.Events
  m : t.Marks.length ≤ 20000
  ok : ∀ m ∈ t.Marks, MkOk m
  s : 0 ≤ t.Sum ∧ t.Sum ≤ 4294967295
def goodF (f : Fr) : Prop := 0 ≤ f.Kind ∧ f.Kind ≤ 255 ∧ f.Data.size ≤ 850000
theorem isB_get {t : Tr} (h : isB t = true) : (0 ≤ t.Fuel ∧ t.Fuel ≤ 1048576) ∧ (1 ≤ t.Every ∧ t.Every ≤ 1048576) ∧ ∀ (k : Nat) (hk : k < t.Marks.length), (t.Marks[k]).Step = (k : Int) * t.Every ∧ (t.Marks[k]).Events = beginV t.Events (t.Marks[k]).Step ∧ 0 ≤ (t.Marks[k]).Events := by
  unfold isB at h
  simp only [Bool.and_eq_true, Bool.not_eq_true', decide_eq_true_eq, decide_eq_false_iff_not] at h
  obtain ⟨h1, h2, h3, h4, h5, h6⟩ := h
  refine ⟨⟨by omega, by omega⟩, ⟨by omega, by omega⟩, fun k hk => ?_⟩
  have := List.all_eq_true.1 h6 (t.Marks.zipIdx[k]'(by rw [List.length_zipIdx]; exact hk)) (List.getElem_mem _)
  rw [List.getElem_zipIdx] at this
  unfold mkOk at this
  simp only [Bool.and_eq_true, Bool.not_eq_true', decide_eq_false_iff_not, beq_iff_eq, Nat.zero_add] at this
  exact ⟨this.1, this.2.1, by omega⟩
theorem lcut_le {α : Type} (l : List α) (a b : Int) : (lCut l a b).length ≤ l.length := by
  unfold lCut
  rw [List.length_take, List.length_drop]
  omega
theorem evsL_len (l : List Ev) (hl : l.length ≤ 20000) : (evsL l).length ≤ 400010 := by
  have h1 := evs_flat l
  have h2 := (numL_len (l.length : Int)).1
  unfold evsL
  rw [List.length_append]; omega
theorem partF_good {l : List Ev} (hl : l.length ≤ 20000) : ∀ f ∈ partF l, goodF f := by
  intro f hf
  unfold partF at hf
  split at hf
  · cases hf
  · rw [List.mem_singleton.1 hf]
    have := evsL_len l hl
    refine ⟨by show (0 : Int) ≤ 2; decide, by show (2 : Int) ≤ 255; decide, ?_⟩
    show (strOfNums (evsL l)).size ≤ _
    rw [num_size]; omega
theorem partF_len (l : List Ev) : (partF l).length ≤ 1 := by unfold partF; split <;> simp
theorem markF_good {m : Mk} (h : MkOk m) : goodF ⟨3, markD m⟩ := by
  have h1 := (numL_len m.Step).1
  have h2 := (numL_len m.Events).1
  have h3 := h.l
  refine ⟨by show (0 : Int) ≤ 3; decide, by show (3 : Int) ≤ 255; decide, ?_⟩
  show (markD m).size ≤ _
  unfold markD
  rw [num_size]
  simp only [List.length_append]; omega
/-- what holds behind k marks -/
structure IF (t : Tr) (k : Nat) (s : List Fr × Int) : Prop where
  z : k = 0 → s.2 = 0
  p : ∀ (j : Nat) (hj : j < t.Marks.length), j + 1 = k → s.2 = (t.Marks[j]).Events
  l : s.1.length ≤ 1 + 2 * k
  g : ∀ f ∈ s.1, goodF f
theorem IF.step {t : Tr} (hp : PTr t) {k : Nat} (hk : k < t.Marks.length) {s : List Fr × Int} (h : IF t k s) : IF t (k + 1) (stepF t.Events s t.Marks[k]) := by
  have h1 := partF_len (lCut t.Events s.2 (t.Marks[k]).Events)
  have h2 := h.l
  have h3 := hp.e
  have h4 := lcut_le t.Events s.2 (t.Marks[k]).Events
  refine ⟨fun e => by omega, fun j hj e => ?_, ?_, fun f hf => ?_⟩
  · have : j = k := by omega
    subst this; rfl
  · unfold stepF
    simp only [List.length_append, List.length_cons, List.length_nil]; omega
  · unfold stepF at hf
    simp only [List.mem_append, List.mem_singleton] at hf
    rcases hf with (q | q) | q
    · exact h.g f q
    · exact partF_good (by omega) f q
    · rw [q]; exact markF_good (hp.ok _ (List.getElem_mem hk))
theorem IF.lo {t : Tr} (hi : isB t = true) {k : Nat} (hk : k ≤ t.Marks.length) {s : List Fr × Int} (h : IF t k s) : 0 ≤ s.2 ∧ s.2 ≤ t.Events.length ∧ ∀ hk' : k < t.Marks.length, s.2 ≤ (t.Marks[k]).Events ∧ (t.Marks[k]).Events ≤ t.Events.length := by
  obtain ⟨_, he, hm⟩ := isB_get hi
  have up : ∀ j (hj : j < t.Marks.length), 0 ≤ (t.Marks[j]).Events ∧ (t.Marks[j]).Events ≤ t.Events.length := fun j hj => by
    obtain ⟨a, b, c⟩ := hm j hj
    refine ⟨c, ?_⟩
    rw [b] at c ⊢
    exact begin_le c
  cases k with
  | zero =>
    rw [h.z rfl]
    exact ⟨Int.le_refl _, by omega, fun hk' => ⟨(up 0 hk').1, (up 0 hk').2⟩⟩
  | succ j =>
    have hj : j < t.Marks.length := by omega
    rw [h.p j hj rfl]
    refine ⟨(up j hj).1, (up j hj).2, fun hk' => ⟨?_, (up (j + 1) hk').2⟩⟩
    obtain ⟨a1, b1, c1⟩ := hm j hj
    obtain ⟨a2, b2, c2⟩ := hm (j + 1) hk'
    rw [b1] at c1 ⊢
    rw [b2] at c2 ⊢
    refine begin_mono ?_ c1 c2
    rw [a1, a2]
    have := Int.mul_le_mul_of_nonneg_right (show (j : Int) ≤ ((j + 1 : Nat) : Int) by omega) (show (0 : Int) ≤ t.Every by omega)
    exact this
end Go.Ab
end
section
/- Frames, one behind the other: the trace of any bytes. -/
namespace Go.Ab
set_option linter.unusedVariables false
set_option maxRecDepth 10000
theorem uptoR (m : Int) (hm : m ≤ 9223372036854775807) : Rdr (rUpto m) numL (fun n => 0 ≤ n ∧ n ≤ m) where
  bad := fun r hr => by rw [rUpto_bad hr]
  shr := rUpto_shr hm
  fwd := fun x r rest hx hr hs => rUpto_fwd hr hx.1 hx.2 hm hs
  bwd := fun r hr he => rUpto_back hr he
def mkEnc (x : Int × Int × Stt) : List Int := numL x.1 ++ (numL x.2.1 ++ stateL x.2.2)
def mkOkR (x : Int × Int × Stt) : Prop := (0 ≤ x.1 ∧ x.1 ≤ 1048576) ∧ (0 ≤ x.2.1 ∧ x.2.1 ≤ 1048576) ∧ okSt x.2.2
theorem mkRR : Rdr mkR mkEnc mkOkR := by
  have h := (uptoR 1048576 (by omega)).pair ((uptoR 1048576 (by omega)).pair stateR)
  exact h
/-- what holds of a trace that was read -/
structure TI (t : Tr) (n : Nat) : Prop where
  e : t.Events.length ≤ n
  m : t.Marks.length ≤ n
  ek : okEvs t.Events
  ok : ∀ m ∈ t.Marks, MkOk m
  s : 0 ≤ t.Sum ∧ t.Sum ≤ 4294967295
theorem TI.up {t : Tr} {n k : Nat} (h : TI t n) (hk : n ≤ k) : TI t k := ⟨by have := h.e; omega, by have := h.m; omega, h.ek, h.ok, h.s⟩
theorem noT_TI (n : Nat) : TI noT n := ⟨Nat.zero_le _, Nat.zero_le _, (fun x hx => by cases hx), (fun m hm => by cases hm), by show (0 : Int) ≤ 0; decide, by show (0 : Int) ≤ _; decide⟩
theorem errT_0 {e : Int} {z : Tr × Int} (h : (errT e z).2 = 0) : e = 0 ∧ errT e z = z := by
  unfold errT at h ⊢
  by_cases he : e = 0
  · rw [if_neg (fun x => x he)]; exact ⟨he, rfl⟩
  · rw [if_pos he] at h; exact absurd h he
theorem finT_0 {ok : Bool} {x : Tr} (h : (finT ok x).2 = 0) : ok = true ∧ isB x = true ∧ (finT ok x).1 = x := by
  unfold finT at h ⊢
  cases hq : (ok && isB x) with
  | false => rw [hq] at h; cases h
  | true =>
    simp only [Bool.and_eq_true] at hq
    exact ⟨hq.1, hq.2, rfl⟩
theorem getEv_ok {s : ByteArray} (h : (getEv s).2 = 0) : okEvs (getEv s).1 := by
  unfold getEv at h ⊢
  by_cases h1 : endV (evMany (rUpto 65536 ⟨s, 0⟩).1.toNat (rUpto 65536 ⟨s, 0⟩).2).2 = 0
  · rw [if_neg (fun x => x h1)] at h ⊢
    by_cases h2 : (chk (evMany (rUpto 65536 ⟨s, 0⟩).1.toNat (rUpto 65536 ⟨s, 0⟩).2).1).2 = 0
    · rw [if_neg (fun x => x h2)]
      exact (evMany_back _ _ (endV_0 h1).1).2.2
    · rw [if_pos h2] at h; exact absurd h h2
  · rw [if_pos h1] at h; exact absurd h h1
theorem wu32_rng (n : Int) : 0 ≤ wu32 n ∧ wu32 n ≤ 4294967295 := by
  rw [wu32_mod]; omega
theorem next_TI {t : Tr} {f : Fr} {n : Nat} (hp : TI t n) (hd : f.Data.size ≤ 2600) (h : (nextT t f).2 = 0) : TI (nextT t f).1 (n + f.Data.size + 2) ∧ isB (nextT t f).1 = true := by
  have he := hp.e
  have hm := hp.m
  unfold nextT at h ⊢
  by_cases k1 : f.Kind = 1
  · rw [if_pos k1] at h ⊢
    obtain ⟨e1, e2⟩ := errT_0 h
    rw [e2] at h ⊢
    obtain ⟨f1, f2, f3⟩ := finT_0 h
    rw [f3]
    exact ⟨⟨Nat.zero_le _, Nat.zero_le _, (fun x hx => by cases hx), (fun m hm => by cases hm), wu32_rng _⟩, f2⟩
  rw [if_neg k1] at h ⊢
  by_cases k2 : f.Kind = 2
  · rw [if_pos k2] at h ⊢
    obtain ⟨e1, e2⟩ := errT_0 h
    rw [e2] at h ⊢
    obtain ⟨f1, f2, f3⟩ := finT_0 h
    rw [f3]
    have hl := getEv_len f.Data (by omega)
    refine ⟨⟨by simp only [List.length_append]; omega, by show t.Marks.length ≤ _; omega, fun x hx => ?_, hp.ok, hp.s⟩, f2⟩
    rcases List.mem_append.1 hx with q | q
    · exact hp.ek x q
    · exact getEv_ok e1 x q
  rw [if_neg k2] at h ⊢
  by_cases k3 : f.Kind = 3
  · rw [if_pos k3] at h ⊢
    obtain ⟨e1, e2⟩ := errT_0 h
    rw [e2] at h ⊢
    obtain ⟨f1, f2, f3⟩ := finT_0 h
    rw [f3]
    have hb := mkRR.bwd ⟨f.Data, 0⟩ rfl (endV_0 e1).1
    have hS : SB (mkR ⟨f.Data, 0⟩).1.2.2 := by
      have q1 : (rUpto 1048576 ⟨f.Data, 0⟩).2.s.size ≤ 2600 := Nat.le_trans (rUpto_ok 1048576 (by omega) ⟨f.Data, 0⟩).2.2 hd
      have q2 : (rUpto 1048576 (rUpto 1048576 ⟨f.Data, 0⟩).2).2.s.size ≤ 2600 := Nat.le_trans (rUpto_ok 1048576 (by omega) _).2.2 q1
      exact rState_SB _ q2
    generalize mkR ⟨f.Data, 0⟩ = R at hb hS f2 ⊢
    obtain ⟨b1, b2, b3, b4⟩ := hb
    have hl := congrArg List.length b1
    rw [sB_len] at hl
    have hl : f.Data.size = (mkEnc R.1 ++ sB R.2.s).length := hl
    unfold mkEnc at hl
    simp only [List.length_append] at hl
    refine ⟨⟨by show t.Events.length ≤ _; omega, by simp only [List.length_append, List.length_cons, List.length_nil]; omega, hp.ek, fun m hm => ?_, hp.s⟩, f2⟩
    rcases List.mem_append.1 hm with q | q
    · exact hp.ok m q
    · rw [List.mem_singleton.1 q]
      exact ⟨b2, b3, hS, b4, by show (stateL R.1.2.2).length ≤ 3000; omega⟩
  rw [if_neg k3] at h ⊢
  by_cases k4 : f.Kind = 4
  · rw [if_pos k4] at h ⊢
    obtain ⟨e1, e2⟩ := errT_0 h
    rw [e2] at h ⊢
    obtain ⟨f1, f2, f3⟩ := finT_0 h
    rw [f3]
    exact ⟨hp.up (by omega), f2⟩
  · rw [if_neg k4] at h; cases h
theorem posL_sum (l : List Fr) : posL l l.length = (l.map (fun f => (frB f).size)).sum := by unfold posL; rw [List.take_length]
end Go.Ab
end
section
/- Frames behind each other. -/
namespace Go.Ab
set_option linter.unusedVariables false
theorem F_rightF (l : List T_api_Frame) (hl : l.length < 9223372036854775807) : ∃ r, F_retraceref04_Right l = some r ∧ (r = true → ∀ f ∈ l, 0 ≤ f.Kind ∧ f.Kind ≤ 255) := by
  unfold F_retraceref04_Right
  refine Loop_ex (fun s => ∃ k : Nat, s = (k : Int) ∧ k ≤ l.length ∧ ∀ f ∈ l.take k, 0 ≤ f.Kind ∧ f.Kind ≤ 255) (fun s => l.length - s.toNat) _ (fun s hs => ?_) 0 ⟨0, rfl, Nat.zero_le _, by simp⟩
  obtain ⟨k, rfl, hk, hall⟩ := hs
  show (∃ s', F_retraceref04_Right_L2 l (k : Int) = _ ∧ _) ∨ ∃ r, F_retraceref04_Right_L2 l (k : Int) = _ ∧ _
  unfold F_retraceref04_Right_L2
  by_cases h1 : k < l.length
  · rw [dct (by omega), cond_true, lAt_lt h1]
    simp only [Option.bind_some, F_retraceref04_Right_J1]
    by_cases h2 : (l[k]'h1).Kind < 0
    · right; rw [dct h2, cond_true]; exact ⟨false, rfl, by intro h; cases h⟩
    · rw [dcf h2, cond_false]
      by_cases h3 : 255 < (l[k]'h1).Kind
      · right; rw [dct h3]; exact ⟨false, rfl, by intro h; cases h⟩
      · left; rw [dcf h3, w64s (by omega)]
        refine ⟨_, rfl, ⟨k + 1, rfl, by omega, ?_⟩, by simp; omega⟩
        intro f hf
        rw [take_snoc h1] at hf
        rcases List.mem_append.1 hf with h | h
        · exact hall f h
        · simp at h; subst h; omega
  · right; rw [dcf (by omega), cond_false]
    refine ⟨true, rfl, fun _ => ?_⟩
    rw [List.take_of_length_le (by omega)] at hall; exact hall

theorem catF_app (a b : List T_api_Frame) : catF (a ++ b) = catF a ++ catF b := by
  unfold catF; rw [List.flatMap_append, num_app]
theorem catF_one (f : T_api_Frame) : catF [f] = frB f := by unfold catF; simp [num_sB]
theorem catF_size' (l : List T_api_Frame) : (catF l).size = posL l l.length := by
  have := catF_size l l.length (Nat.le_refl _); rwa [List.take_length] at this
def okF (l : List T_api_Frame) : Prop := ∀ f ∈ l, 0 ≤ f.Kind ∧ f.Kind ≤ 255 ∧ f.Data.size ≤ 850000
theorem chain_cat (l : List T_api_Frame) (hk : okF l) (B : ByteArray) : Chain (catF l ++ B) l := by
  intro k f hf
  have hlt := lt_of_getL hf
  have hfk : l[k] = f := by rw [List.getElem?_eq_getElem hlt] at hf; exact Option.some.inj hf
  have hd : l = l.take k ++ [f] ++ l.drop (k + 1) := by
    rw [← hfk, ← take_snoc hlt, List.take_append_drop]
  have hs : catF l ++ B = catF (l.take k) ++ frB f ++ (catF (l.drop (k + 1)) ++ B) := by
    conv => lhs; rw [hd]
    rw [catF_app, catF_app, catF_one]; simp only [app_assoc]
  have h1 := hk f (List.mem_of_getElem? hf)
  rw [hs, ← catF_size l k (by omega), next_put _ _ f h1.1 h1.2.1 (by omega), posL_succ hf, ← catF_size l k (by omega)]
end Go.Ab
end
section
/- TraceGets and TraceFrames. -/
namespace Go.Ab
set_option linter.unusedVariables false
set_option maxRecDepth 10000
theorem selfT {t : Tr} {n : Nat} (h : TI t n) (hn : n ≤ 20000) : F_retraceref32_Same t t = some true := by
  have he := h.e
  have hm := h.m
  unfold F_retraceref32_Same F_retraceref32_Same_J1
  rw [sameE_eq t.Events t.Events (by omega) true (by simp)]
  simp only [bne_self_eq_false, cond_false, Option.bind_some, Bool.not_true]
  refine Loop_nat (step := fun s : Int => F_retraceref32_Same_L3 t t s) (fun k => (k : Int)) t.Marks.length (fun k hk => ?_) ?_
  · show F_retraceref32_Same_L3 t t (k : Int) = _
    unfold F_retraceref32_Same_L3 F_retraceref32_Same_J2
    rw [dct (by omega), lAt_lt hk]
    simp only [cond_true, Option.bind_some, bne_self_eq_false, cond_false]
    rw [sameSt _ (h.ok _ (List.getElem_mem hk)).b]
    simp only [Option.bind_some, Bool.not_true, cond_false]
    rw [w64s (by omega)]
  · show F_retraceref32_Same_L3 t t (t.Marks.length : Int) = _
    unfold F_retraceref32_Same_L3
    rw [dcf (by omega)]; rfl
end Go.Ab
end
section
/- TraceFrames. -/
namespace Go.Ab
set_option linter.unusedVariables false
theorem posL_bound (l : List Fr) (n : Nat) (hk : ∀ f ∈ l, f.Data.size ≤ n) : ∀ k, k ≤ l.length → posL l k ≤ k * (n + 15) := by
  intro k
  induction k with
  | zero => intro _; simp [posL_zero]
  | succ k ih =>
    intro h
    have hg := List.getElem?_eq_getElem (show k < l.length by omega)
    have h1 := hk _ (List.mem_of_getElem? hg)
    have h2 := (numL_len ((l[k]'(by omega)).Data.size : Int)).1
    have h3 := ih (by omega)
    rw [posL_succ hg, frB_size, Nat.succ_mul]; omega
end Go.Ab
end
section
/- What is left of any bytes. -/
namespace Go.Ab
set_option linter.unusedVariables false
set_option maxRecDepth 20000
def ofL (sz ee : Int) : List Fr → Tr → Nat → Tr × Int × Int
  | [], t, p => (t, (p : Int), ee)
  | f :: l, t, p => if (nextT t f).2 ≠ 0 then (t, (p : Int), (nextT t f).2) else if f.Kind = 4 then ((nextT t f).1, ((p + (frB f).size : Nat) : Int), if ((p + (frB f).size : Nat) : Int) < sz then 3 else 0) else ofL sz ee l (nextT t f).1 (p + (frB f).size)
theorem ofL_e {sz ee : Int} {f : Fr} {l : List Fr} {t : Tr} {p : Nat} (h : ¬ (nextT t f).2 = 0) : ofL sz ee (f :: l) t p = (t, (p : Int), (nextT t f).2) := if_pos h
theorem ofL_4 {sz ee : Int} {f : Fr} {l : List Fr} {t : Tr} {p : Nat} (h : (nextT t f).2 = 0) (h4 : f.Kind = 4) : ofL sz ee (f :: l) t p = ((nextT t f).1, ((p + (frB f).size : Nat) : Int), if ((p + (frB f).size : Nat) : Int) < sz then 3 else 0) := by
  unfold ofL
  rw [if_neg (fun x => x h), if_pos h4]
theorem ofL_0 {sz ee : Int} {f : Fr} {l : List Fr} {t : Tr} {p : Nat} (h : (nextT t f).2 = 0) (h4 : ¬ f.Kind = 4) : ofL sz ee (f :: l) t p = ofL sz ee l (nextT t f).1 (p + (frB f).size) := by
  rw [ofL, if_neg (fun x => x h), if_neg h4]
theorem ofL_TI (sz ee : Int) : ∀ (l : List Fr) (t : Tr) (p n : Nat), TI t n → (∀ f ∈ l, f.Data.size ≤ 2600) → TI (ofL sz ee l t p).1 (n + (l.map (fun f => (frB f).size)).sum)
  | [], t, p, n, h, _ => by simpa [ofL] using h
  | f :: l, t, p, n, h, hd => by
    have hz := frB_size f
    rw [List.map_cons, List.sum_cons]
    by_cases h0 : (nextT t f).2 = 0
    · have a := (next_TI h (hd f (List.mem_cons_self ..)) h0).1
      by_cases h4 : f.Kind = 4
      · rw [ofL_4 h0 h4]; exact a.up (by omega)
      · rw [ofL_0 h0 h4]
        exact (ofL_TI sz ee l _ _ _ a (fun g hg => hd g (List.mem_cons_of_mem _ hg))).up (by omega)
    · rw [ofL_e h0]; exact h.up (by omega)
theorem of_prog {s : ByteArray} (hs : s.size ≤ 18000) {l : List Fr} (hc : Chain s l) (he : (nextV s (posL l l.length : Int)).2.2 ≠ 0) (hd : ∀ f ∈ l, f.Data.size ≤ 2600) :
    ∀ (n k : Nat) (t : Tr) (m : Nat) (z : Int), k + n = l.length → TI t m → m + ((l.drop k).map (fun f => (frB f).size)).sum ≤ 50000 →
      Loop (fun x : (Int × Int × Int × (List T_api_Event) × (List T_api_Mark) × Int × Int) => F_salvage_Of_L1 s x.1 x.2.1 x.2.2.1 x.2.2.2.1 x.2.2.2.2.1 x.2.2.2.2.2.1 x.2.2.2.2.2.2) (t.Sum, t.Fuel, t.Every, t.Events, t.Marks, (posL l k : Int), z) = some (ofL s.size (nextV s (posL l l.length : Int)).2.2 (l.drop k) t (posL l k)) := by
  intro n
  induction n with
  | zero =>
    intro k t m z hk hp hb
    have : k = l.length := by omega
    subst this
    rw [List.drop_length]
    refine Loop_inr ?_
    show F_salvage_Of_L1 s t.Sum t.Fuel t.Every t.Events t.Marks (posL l l.length : Int) z = _
    unfold F_salvage_Of_L1 F_salvage_Of_1_v2
    rw [F_next s _ (by omega)]
    simp only [Option.bind_some]
    have e0 : ((nextV s (posL l l.length : Int)).2.2 != 0) = true := by simpa using he
    rw [e0, cond_true]
    simp only [Option.bind_some, e0, cond_true]
    rfl
  | succ n ih =>
    intro k t m z hk hp hb
    have hkl : k < l.length := by omega
    have hpe := hp.e
    have hpm := hp.m
    rw [List.drop_eq_getElem_cons hkl] at hb ⊢
    rw [List.map_cons, List.sum_cons] at hb
    have hf := hd _ (List.getElem_mem hkl)
    have hg := List.getElem?_eq_getElem hkl
    have hn := hc k _ hg
    have hps := posL_succ hg
    have hnx : F_trace_Next ⟨t.Sum, t.Fuel, t.Every, t.Events, t.Marks⟩ l[k] = some (nextT t l[k]) := F_tnext t l[k] (by omega) (by omega) hf
    have e1 : F_salvage_Of_1_v2 s (posL l k : Int) ⟨t.Sum, t.Fuel, t.Every, t.Events, t.Marks⟩ z = if (nextT t l[k]).2 ≠ 0 then some ((nextT t l[k]).2, (posL l k : Int), t, z) else some (0, (posL l (k + 1) : Int), (nextT t l[k]).1, (l[k]).Kind) := by
      unfold F_salvage_Of_1_v2 F_salvage_Of_1_v2_J1
      rw [F_next s _ (by omega), hn]
      simp only [Option.bind_some, bne_self_eq_false, cond_false]
      rw [hnx]
      simp only [Option.bind_some]
      by_cases h0 : (nextT t l[k]).2 = 0
      · rw [beqt h0, cond_true, if_neg (fun x => x h0), h0]
      · rw [beqf h0, cond_false, if_pos h0]
    by_cases h0 : (nextT t l[k]).2 = 0
    · rw [if_neg (fun x => x h0)] at e1
      by_cases h4 : (l[k]).Kind = 4
      · rw [ofL_4 h0 h4]
        refine Loop_inr ?_
        show F_salvage_Of_L1 s t.Sum t.Fuel t.Every t.Events t.Marks (posL l k : Int) z = _
        unfold F_salvage_Of_L1
        rw [e1]
        simp only [Option.bind_some, bne_self_eq_false, cond_false]
        rw [beqt h4, cond_true, hps]
        by_cases hlt : ((posL l k + (frB l[k]).size : Nat) : Int) < (s.size : Int)
        · rw [dct hlt, if_pos hlt]; rfl
        · rw [dcf hlt, if_neg hlt]; rfl
      · rw [ofL_0 h0 h4]
        have st : F_salvage_Of_L1 s t.Sum t.Fuel t.Every t.Events t.Marks (posL l k : Int) z = some (.inl ((nextT t l[k]).1.Sum, (nextT t l[k]).1.Fuel, (nextT t l[k]).1.Every, (nextT t l[k]).1.Events, (nextT t l[k]).1.Marks, (posL l (k + 1) : Int), (l[k]).Kind)) := by
          unfold F_salvage_Of_L1
          rw [e1]
          simp only [Option.bind_some, bne_self_eq_false, cond_false]
          rw [beqf h4, cond_false]
        rw [Loop_inl st]
        have a1 := (next_TI hp hf h0).1
        have hz := frB_size l[k]
        have := ih (k + 1) (nextT t l[k]).1 _ (l[k]).Kind (by omega) a1 (by omega)
        rw [hps] at this
        rw [hps]
        exact this
    · rw [if_pos h0] at e1
      rw [ofL_e h0]
      refine Loop_inr ?_
      show F_salvage_Of_L1 s t.Sum t.Fuel t.Every t.Events t.Marks (posL l k : Int) z = _
      unfold F_salvage_Of_L1
      rw [e1]
      have e0 : ((nextT t l[k]).2 != 0) = true := by simpa using h0
      simp only [Option.bind_some, e0, cond_true]
      rfl
theorem of_ref {s : ByteArray} (hs : s.size ≤ 18000) {l : List Fr} (hc : Chain s l) (he : (nextV s (posL l l.length : Int)).2.2 ≠ 0) (hd : ∀ f ∈ l, f.Data.size ≤ 2600) :
    ∀ (n k : Nat) (t : Tr) (m : Nat), k + n = l.length → TI t m → m + ((l.drop k).map (fun f => (frB f).size)).sum ≤ 50000 → ∀ R, ofL s.size (nextV s (posL l l.length : Int)).2.2 (l.drop k) t (posL l k) = R →
      Loop (fun x : (Int × Int × Int × (List T_api_Event) × (List T_api_Mark) × Int) => F_retraceref33_Of_L2 s x.1 x.2.1 x.2.2.1 x.2.2.2.1 x.2.2.2.2.1 x.2.2.2.2.2) (t.Sum, t.Fuel, t.Every, t.Events, t.Marks, (posL l k : Int)) = some ⟨R.1, R.2.1, R.2.2⟩ := by
  intro n
  induction n with
  | zero =>
    intro k t m hk hp hb R hR
    have : k = l.length := by omega
    subst this
    rw [List.drop_length] at hR
    subst hR
    refine Loop_inr ?_
    show F_retraceref33_Of_L2 s t.Sum t.Fuel t.Every t.Events t.Marks (posL l l.length : Int) = _
    unfold F_retraceref33_Of_L2
    rw [F_nextR s _ (by omega)]
    simp only [Option.bind_some]
    have e0 : ((nextV s (posL l l.length : Int)).2.2 != 0) = true := by simpa using he
    rw [e0, cond_true]
    rfl
  | succ n ih =>
    intro k t m hk hp hb R hR
    have hkl : k < l.length := by omega
    have hpe := hp.e
    have hpm := hp.m
    rw [List.drop_eq_getElem_cons hkl] at hb hR
    rw [List.map_cons, List.sum_cons] at hb
    have hf := hd _ (List.getElem_mem hkl)
    have hg := List.getElem?_eq_getElem hkl
    have hn := hc k _ hg
    have hps := posL_succ hg
    have hnx : F_retraceref32_Next ⟨t.Sum, t.Fuel, t.Every, t.Events, t.Marks⟩ l[k] = some ⟨(nextT t l[k]).1, (nextT t l[k]).2⟩ := F_tnextR t l[k] (by omega) (by omega) hf
    by_cases h0 : (nextT t l[k]).2 = 0
    · by_cases h4 : (l[k]).Kind = 4
      · rw [ofL_4 h0 h4] at hR
        subst hR
        refine Loop_inr ?_
        show F_retraceref33_Of_L2 s t.Sum t.Fuel t.Every t.Events t.Marks (posL l k : Int) = _
        unfold F_retraceref33_Of_L2 F_retraceref33_Of_J1
        rw [F_nextR s _ (by omega), hn]
        simp only [Option.bind_some, bne_self_eq_false, cond_false]
        rw [hnx]
        simp only [Option.bind_some]
        have e0 : ((nextT t l[k]).2 != 0) = false := by simp [h0]
        rw [e0, cond_false, beqt h4, cond_true, hps]
        by_cases hlt : ((posL l k + (frB l[k]).size : Nat) : Int) < (s.size : Int)
        · rw [dct hlt, if_pos hlt]; rfl
        · rw [dcf hlt, if_neg hlt]; rfl
      · rw [ofL_0 h0 h4] at hR
        have st : F_retraceref33_Of_L2 s t.Sum t.Fuel t.Every t.Events t.Marks (posL l k : Int) = some (.inl ((nextT t l[k]).1.Sum, (nextT t l[k]).1.Fuel, (nextT t l[k]).1.Every, (nextT t l[k]).1.Events, (nextT t l[k]).1.Marks, (posL l (k + 1) : Int))) := by
          unfold F_retraceref33_Of_L2
          rw [F_nextR s _ (by omega), hn]
          simp only [Option.bind_some, bne_self_eq_false, cond_false]
          rw [hnx]
          simp only [Option.bind_some]
          have e0 : ((nextT t l[k]).2 != 0) = false := by simp [h0]
          rw [e0, cond_false, beqf h4, cond_false]
        rw [Loop_inl st]
        have a1 := (next_TI hp hf h0).1
        have hz := frB_size l[k]
        exact ih (k + 1) (nextT t l[k]).1 _ (by omega) a1 (by omega) R (by rw [hps]; exact hR)
    · rw [ofL_e h0] at hR
      subst hR
      refine Loop_inr ?_
      show F_retraceref33_Of_L2 s t.Sum t.Fuel t.Every t.Events t.Marks (posL l k : Int) = _
      unfold F_retraceref33_Of_L2
      rw [F_nextR s _ (by omega), hn]
      simp only [Option.bind_some, bne_self_eq_false, cond_false]
      rw [hnx]
      simp only [Option.bind_some]
      have e0 : ((nextT t l[k]).2 != 0) = true := by simpa using h0
      rw [e0, cond_true]
      rfl
def ofV (s : ByteArray) (l : List Fr) : Tr × Int × Int := ofL s.size (nextV s (posL l l.length : Int)).2.2 l noT 0
theorem F_sof {s : ByteArray} (hs : s.size ≤ 18000) {l : List Fr} (hc : Chain s l) (he : (nextV s (posL l l.length : Int)).2.2 ≠ 0) (hd : ∀ f ∈ l, f.Data.size ≤ 2600) :
    F_salvage_Of s = some (ofV s l) ∧ F_retraceref33_Of s = some ⟨(ofV s l).1, (ofV s l).2.1, (ofV s l).2.2⟩ ∧ TI (ofV s l).1 18000 := by
  have hle := hc.le
  have hsum := posL_sum l
  refine ⟨?_, ?_, ?_⟩
  · have := of_prog hs hc he hd l.length 0 noT 0 0 (by omega) (noT_TI 0) (by rw [List.drop_zero]; omega)
    rw [List.drop_zero, posL_zero] at this
    exact this
  · have := of_ref hs hc he hd l.length 0 noT 0 (by omega) (noT_TI 0) (by rw [List.drop_zero]; omega) (ofV s l) (by rw [List.drop_zero, posL_zero]; rfl)
    rw [posL_zero] at this
    exact this
  · exact (ofL_TI _ _ l noT 0 0 (noT_TI 0) hd).up (by omega)
theorem steps_eq (l : List Ev) (hl : l.length ≤ 100000) : F_event_Steps l = some ((bg l).length : Int) := by
  unfold F_event_Steps F_event_begins F_event_begins_1_v2
  simp only [Option.bind_some]
  have e := Loop_nat (step := fun s : (Int × Int) => F_event_begins_1_v2_L2 l s.1 s.2) (fun k => ((k : Int), ((bg (l.take k)).length : Int))) l.length (r := ((bg l).length : Int)) (fun k hk => ?_) ?_
  · have e' : Loop (fun s : (Int × Int) => F_event_begins_1_v2_L2 l s.1 s.2) (0, 0) = some ((bg l).length : Int) := e
    rw [e']; rfl
  · show F_event_begins_1_v2_L2 l (k : Int) _ = _
    have hb := bgI_len (l.take k) 0
    rw [List.length_take] at hb
    have hb2 : (bg (l.take k)).length ≤ k := by unfold bg; omega
    unfold F_event_begins_1_v2_L2 F_event_begins_1_v2_J1 F_R_event_Steps_0
    rw [dct (by omega), lAt_lt hk, bg_snoc hk]
    simp only [cond_true, Option.bind_some]
    by_cases h : l[k].Kind = 1
    · rw [beqt h, if_pos h, cond_true, w64s (k := (bg (l.take k)).length) (by omega), w64s (k := k) (by omega)]; simp
    · rw [beqf h, if_neg h, cond_false, w64s (by omega)]; simp
  · show F_event_begins_1_v2_L2 l (l.length : Int) _ = _
    unfold F_event_begins_1_v2_L2
    rw [dcf (by omega), List.take_length]; rfl
/-- the chapter's example -/
def evX : List Ev := [⟨1, 0⟩, ⟨1, 0⟩]
theorem live33 : F_retracelaw33_live = some true := by
  have hc : Chain (⟨#[]⟩ : ByteArray) [] := fun k f h => by simp at h
  have hn : (nextV (⟨#[]⟩ : ByteArray) (posL [] ([] : List Fr).length : Int)).2.2 = 2 := by
    have hp : posL [] ([] : List Fr).length = 0 := posL_zero []
    rw [hp]
    unfold nextV
    rw [if_neg (by decide), if_pos (by decide)]
  obtain ⟨g1, _, _⟩ := F_sof (s := ⟨#[]⟩) (by decide) hc (by rw [hn]; decide) (fun f hf => by cases hf)
  have hv : ofV (⟨#[]⟩ : ByteArray) [] = (noT, 0, 2) := by
    unfold ofV
    rw [hn]; rfl
  rw [hv] at g1
  have hself := selfT (noT_TI 0) (by omega)
  have s1 : F_salvage_Steps ⟨0, 0, 1, evX, []⟩ = some 2 := by
    unfold F_salvage_Steps
    rw [steps_eq evX (by decide)]; rfl
  have hb : F_event_Begin evX 1 = some 1 := by
    rw [begin_eq evX 1 (by decide) (by decide)]; rfl
  have hi : F_slices_IndexFunc_retrace_api_Mark_retrace_api_Mark [] 1 = some (-1) := by
    unfold F_slices_IndexFunc_retrace_api_Mark_retrace_api_Mark
    exact Loop_inr rfl
  have hcut : F_salvage_Cut ⟨0, 0, 1, evX, []⟩ 1 = some ⟨0, 0, 1, [⟨1, 0⟩], []⟩ := by
    unfold F_salvage_Cut
    simp only
    rw [hb]
    simp only [Option.bind_some]
    have hl : lCut evX 0 1 = [⟨1, 0⟩] := rfl
    have h2 : (evX.length : Int) = 2 := rfl
    rw [dcf (by decide), cond_false, h2, grd_t (by decide), hl]
    unfold F_slices_Clone_retrace_api_Event_retrace_api_Event F_slices_Clone_retrace_api_Mark_retrace_api_Mark F_slices_DeleteFunc_retrace_api_Mark_retrace_api_Mark
    rw [grd_t (by decide)]
    simp only [Option.bind_some]
    rw [grd_t (by decide)]
    simp only [Option.bind_some, List.append_nil]
    rw [hi]; rfl
  have s2 : F_salvage_Steps ⟨0, 0, 1, [⟨1, 0⟩], []⟩ = some 1 := by
    unfold F_salvage_Steps
    rw [steps_eq [⟨1, 0⟩] (by decide)]; rfl
  unfold F_retracelaw33_live F_retracelaw33_live_J1
  rw [g1]
  simp only [Option.bind_some]
  have hself : F_retraceref32_Same noT ⟨0, 0, 0, [], []⟩ = some true := hself
  rw [hself]
  simp only [Option.bind_some, beq_self_eq_true, cond_true]
  have s1 : F_salvage_Steps ⟨0, 0, 1, [⟨1, 0⟩, ⟨1, 0⟩], []⟩ = some 2 := s1
  have hcut : F_salvage_Cut ⟨0, 0, 1, [⟨1, 0⟩, ⟨1, 0⟩], []⟩ 1 = some ⟨0, 0, 1, [⟨1, 0⟩], []⟩ := hcut
  rw [s1]
  simp only [Option.bind_some, beq_self_eq_true, cond_true]
  rw [hcut]
  simp only [Option.bind_some]
  rw [s2]; rfl
theorem chain_from (s : ByteArray) : ∀ (n : Nat) (l : List Fr), Chain s l → s.size - posL l l.length ≤ n → ∃ m, Chain s (l ++ m) ∧ (nextV s (posL (l ++ m) (l ++ m).length : Int)).2.2 ≠ 0 := by
  intro n
  induction n with
  | zero =>
    intro l h hn
    refine ⟨[], by rw [List.append_nil]; exact h, ?_⟩
    rw [List.append_nil]
    have hle := h.le
    unfold nextV
    rw [if_neg (by omega), if_pos (by omega)]; decide
  | succ n ih =>
    intro l h hn
    by_cases h0 : (nextV s (posL l l.length : Int)).2.2 = 0
    · have hx : nextV s (posL l l.length : Int) = ((nextV s (posL l l.length : Int)).1, (nextV s (posL l l.length : Int)).2.1, 0) := Prod.ext rfl (Prod.ext rfl h0)
      have hs := chain_snoc h hx
      have hl : (l ++ [(nextV s (posL l l.length : Int)).1]).length = l.length + 1 := by simp
      have hg : (l ++ [(nextV s (posL l l.length : Int)).1])[l.length]? = some (nextV s (posL l l.length : Int)).1 := by simp
      have hp := posL_succ hg
      rw [posL_app (Nat.le_refl _)] at hp
      have hz := frB_size (nextV s (posL l l.length : Int)).1
      obtain ⟨m, m1, m2⟩ := ih _ hs (by rw [hl, hp]; omega)
      refine ⟨[(nextV s (posL l l.length : Int)).1] ++ m, ?_, ?_⟩
      · rw [← List.append_assoc]; exact m1
      · rw [← List.append_assoc]; exact m2
    · exact ⟨[], by rw [List.append_nil]; exact h, by rw [List.append_nil]; exact h0⟩
theorem sframes_end (l : List Fr) (more : ByteArray) (hl : l.length ≤ 20) (hm : more.size ≤ 200) (hk : ∀ f ∈ l, 0 ≤ f.Kind ∧ f.Kind ≤ 255) (hd : ∀ f ∈ l, f.Data.size ≤ 800) : F_retracelaw33_SalvageFrames_L3 l more (l.length : Int) = some (.inr true) := by
  have hok : okF l := fun f hf => ⟨(hk f hf).1, (hk f hf).2, by have := hd f hf; omega⟩
  have hb := posL_bound l 800 hd l.length (Nat.le_refl _)
  have hz := catF_size' l
  have hmul : l.length * (800 + 15) ≤ 20 * 815 := Nat.mul_le_mul_right _ hl
  have hs : (catF l ++ more).size ≤ 18000 := by
    rw [ByteArray.size_append]; omega
  have hc := chain_cat l hok more
  obtain ⟨m, m1, m2⟩ := chain_from (catF l ++ more) _ l hc (Nat.le_refl _)
  have hd' : ∀ f ∈ l ++ m, f.Data.size ≤ 2600 := by
    intro f hf
    rcases List.mem_append.1 hf with q | q
    · have := hd f q; omega
    · obtain ⟨j, hj, e⟩ := List.getElem_of_mem q
      have hg : (l ++ m)[l.length + j]? = some f := by
        rw [List.getElem?_append_right (by omega)]
        simp [hj, e]
      have hp := posL_succ hg
      have hle := m1.le
      have h1 : posL (l ++ m) (l.length + j + 1) ≤ posL (l ++ m) (l ++ m).length := posL_mono (by rw [List.length_append]; omega)
      have h2 : posL (l ++ m) l.length ≤ posL (l ++ m) (l.length + j) := posL_mono (by omega)
      rw [posL_app (Nat.le_refl _)] at h2
      have h3 := frB_size f
      rw [ByteArray.size_append] at hle
      omega
  obtain ⟨g1, g2, g3⟩ := F_sof hs m1 m2 hd'
  unfold F_retracelaw33_SalvageFrames_L3 F_retracelaw33_SalvageFrames_J2
  rw [dcf (by omega), cond_false, F_joinF l (by omega) hok]
  simp only [Option.bind_some]
  rw [grd_t (by omega), g1]
  simp only [Option.bind_some]
  rw [grd_t (by omega), g2]
  simp only [Option.bind_some]
  rw [selfT g3 (by omega)]
  simp only [Option.bind_some, beq_self_eq_true, cond_true]
  rw [live33]; rfl
theorem law_sframes (l : List Fr) (more : ByteArray) : F_retracelaw33_SalvageFrames l more = some true := by
  unfold F_retracelaw33_SalvageFrames
  have jt : F_retracelaw33_SalvageFrames_J1 l more true = some true := by
    unfold F_retracelaw33_SalvageFrames_J1
    rw [cond_true, live33]; rfl
  by_cases hl : 20 < (l.length : Int)
  · rw [dct hl, cond_true]; exact jt
  rw [dcf hl, cond_false]
  by_cases hm : 200 < (more.size : Int)
  · rw [dct hm, cond_true]; exact jt
  rw [dcf hm, cond_false]
  obtain ⟨r, hr, hr2⟩ := F_rightF l (by omega)
  rw [hr]
  simp only [Option.bind_some]
  cases r with
  | false => exact jt
  | true =>
    have hk := hr2 rfl
    unfold F_retracelaw33_SalvageFrames_J1
    rw [Bool.not_true, cond_false]
    have := Loop_ex (step := fun s : Int => F_retracelaw33_SalvageFrames_L3 l more s) (fun s => ∃ k : Nat, s = (k : Int) ∧ k ≤ l.length ∧ ∀ f ∈ l.take k, f.Data.size ≤ 800) (fun s => l.length - s.toNat) (fun b => b = true) (fun s hs => ?_) 0 ⟨0, rfl, Nat.zero_le _, by simp⟩
    · obtain ⟨r, e, rfl⟩ := this
      exact e
    · obtain ⟨k, rfl, hkl, hall⟩ := hs
      show (∃ s', F_retracelaw33_SalvageFrames_L3 l more (k : Int) = _ ∧ _) ∨ ∃ r, F_retracelaw33_SalvageFrames_L3 l more (k : Int) = _ ∧ _
      by_cases h1 : k < l.length
      · unfold F_retracelaw33_SalvageFrames_L3
        rw [dct (by omega), cond_true, lAt_lt h1]
        simp only [Option.bind_some]
        by_cases h2 : 800 < ((l[k]).Data.size : Int)
        · right
          rw [dct h2, cond_true, live33]
          exact ⟨true, rfl, rfl⟩
        · left
          rw [dcf h2, cond_false, w64s (by omega)]
          refine ⟨_, rfl, ⟨k + 1, rfl, by omega, fun f hf => ?_⟩, by simp; omega⟩
          rw [take_snoc h1] at hf
          rcases List.mem_append.1 hf with q | q
          · exact hall f q
          · rw [List.mem_singleton.1 q]; omega
      · right
        have : k = l.length := by omega
        subst this
        rw [List.take_length] at hall
        exact ⟨true, sframes_end l more (by omega) (by omega) hk hall, rfl⟩
end Go.Ab
end
