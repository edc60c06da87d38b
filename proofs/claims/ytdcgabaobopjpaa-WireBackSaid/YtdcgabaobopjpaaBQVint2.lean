import Derived.Test.YtdcgabaobopjpaaBQVint
namespace Go.Ab
set_option linter.unusedVariables false

def getV (s : ByteArray) (p : Int) : Int × Int × Int := if p < 0 ∨ (s.size : Int) < p then (0, 0, 1) else getS ((sB s).drop p.toNat) p 10 0 0

theorem getS_range (l : List Int) (hl : ∀ x ∈ l, 0 ≤ x ∧ x ≤ 255) (at_ : Int) : ∀ (d k : Nat) (u : Int), k + d = 10 → 0 ≤ u → u < 128 ^ k → 0 ≤ (getS l at_ d k u).1 ∧ (getS l at_ d k u).1 ≤ 18446744073709551615 := by
  intro d
  induction d with
  | zero => intro k u _ _ _; exact ⟨Int.le_refl _, by show (0 : Int) ≤ _; decide⟩
  | succ d ih =>
    intro k u hk hu hu'
    have hk9 : k ≤ 9 := by omega
    obtain ⟨hp, hpb⟩ := pow_bound hk9
    unfold getS
    split
    · exact ⟨Int.le_refl _, by show (0 : Int) ≤ _; decide⟩
    · rename_i c hc
      have hm := hl c (List.mem_of_getElem? hc)
      split
      · exact ⟨Int.le_refl _, by show (0 : Int) ≤ _; decide⟩
      · rename_i hb
        split
        · rename_i h128
          have h0 : 0 ≤ c * 128 ^ k := Int.mul_nonneg hm.1 (Int.le_of_lt hp)
          refine ⟨by show 0 ≤ u + c * 128 ^ k; omega, ?_⟩
          show u + c * 128 ^ k ≤ _
          by_cases h9 : k = 9
          · have : c ≤ 1 := by omega
            have := Int.mul_le_mul_of_nonneg_right this (Int.le_of_lt hp)
            omega
          · have h8 : (128 : Int) ^ k ≤ 128 ^ 8 := by exact_mod_cast Nat.pow_le_pow_right (by decide) (by omega : k ≤ 8)
            have h8' : (128 : Int) ^ 8 = 72057594037927936 := by decide
            have := Int.mul_le_mul_of_nonneg_right (by omega : c ≤ 127) (Int.le_of_lt hp)
            omega
        · rename_i h128
          have hmul := Int.mul_le_mul_of_nonneg_right (by omega : c - 128 ≤ 127) (Int.le_of_lt hp)
          have hmul0 : 0 ≤ (c - 128) * 128 ^ k := Int.mul_nonneg (by omega) (Int.le_of_lt hp)
          have hpk : (128 : Int) ^ (k + 1) = 128 ^ k * 128 := Int.pow_succ _ _
          exact ih (k + 1) _ (by omega) (by omega) (by omega)
theorem getV_range (s : ByteArray) (p : Int) : 0 ≤ (getV s p).1 ∧ (getV s p).1 ≤ 18446744073709551615 := by
  unfold getV
  split
  · exact ⟨Int.le_refl _, by show (0 : Int) ≤ _; decide⟩
  · exact getS_range _ (fun x hx => sB_mem (List.mem_of_mem_drop hx)) _ 10 0 0 rfl (by decide) (by decide)
end Go.Ab
