import Derived.Test.YtdcgabaobopjpaaGB
import Derived.Test.YtdcgabaobopjpaaAbStr
import Derived.Laws.BitsLemmas
import Derived.Laws.BitsAllLaws
namespace Go.Ab
set_option linter.unusedVariables false

theorem wrapU64 (n : Int) : IntKind.u64.wrap n = n % 18446744073709551616 := by simp [IntKind.wrap, IntKind.bits, IntKind.signed]

theorem xor_ones64 (k : IntKind) (hk : k = .u64 ∨ k = .i64) (x y : Int) (hy : BitVec.ofInt 64 y = BitVec.allOnes 64) : bits .xor k x y = k.wrap (-1 - x) := by
  have e : bits .xor k x y = k.wrap ((BitVec.ofInt 64 x ^^^ BitVec.ofInt 64 y).toNat : Int) := by rcases hk with rfl | rfl <;> rfl
  rw [e, hy, BitVec.xor_allOnes, BitVec.toNat_not]
  have h1 : (BitVec.ofInt 64 x).toNat = (x % 18446744073709551616).toNat := by rw [BitVec.toNat_ofInt]; rfl
  rw [h1]
  rcases hk with rfl | rfl
  · rw [wrapU64, wrapU64]; omega
  · rw [IntKind.wrap_i64, IntKind.wrap_i64]; omega
theorem xor_zero64 (k : IntKind) (hk : k = .u64 ∨ k = .i64) (x : Int) : bits .xor k x 0 = k.wrap x := by
  have e : bits .xor k x 0 = k.wrap ((BitVec.ofInt 64 x ^^^ BitVec.ofInt 64 0).toNat : Int) := by rcases hk with rfl | rfl <;> rfl
  have h0 : BitVec.ofInt 64 0 = 0#64 := rfl
  rw [e, h0, BitVec.xor_zero]
  have h1 : (BitVec.ofInt 64 x).toNat = (x % 18446744073709551616).toNat := by rw [BitVec.toNat_ofInt]; rfl
  rw [h1]
  rcases hk with rfl | rfl
  · rw [wrapU64, wrapU64]; omega
  · rw [IntKind.wrap_i64, IntKind.wrap_i64]; omega

def zigN (n : Int) : Int := if n < 0 then -2 * n - 1 else 2 * n
def zagN (u : Int) : Int := if u % 2 = 1 then - (u / 2) - 1 else u / 2

theorem F_zig (n : Int) (h0 : -9223372036854775808 ≤ n) (h1 : n ≤ 9223372036854775807) : F_vint_Zig n = some (zigN n) := by
  unfold F_vint_Zig zigN
  have hd : Int.fdiv n 9223372036854775808 = n / 9223372036854775808 := Int.fdiv_eq_ediv_of_nonneg _ (by decide)
  by_cases h : n < 0
  · have e : n / 9223372036854775808 = -1 := by omega
    rw [hd, e, xor_ones64 .u64 (.inl rfl) _ _ (by decide), if_pos h]
    simp only [wu64, wrapU64]
    congr 1; omega
  · have e : n / 9223372036854775808 = 0 := by omega
    have e2 : wu64 0 = 0 := by decide
    rw [hd, e, e2, xor_zero64 .u64 (.inl rfl), if_neg h]
    simp only [wu64, wrapU64]
    congr 1; omega

theorem F_zag (u : Int) (h0 : 0 ≤ u) (h1 : u ≤ 18446744073709551615) : F_vint_Zag u = some (zagN u) := by
  unfold F_vint_Zag zagN
  have hd : Int.fdiv u 2 = u / 2 := Int.fdiv_eq_ediv_of_nonneg _ (by decide)
  have hm : bits .and .u64 u 1 = u % 2 := by
    have := bits_mask .u64 64 (by decide) (fun n h0 h1 => by rw [wrapU64]; omega) 1 (by decide) u h0 (by omega)
    simpa using this
  rw [hd, hm]
  by_cases h : u % 2 = 1
  · have e : w64 (0 - w64 (u % 2)) = -1 := by rw [h]; decide
    rw [e, xor_ones64 .i64 (.inr rfl) _ _ (by decide), if_pos h]
    simp only [w64, IntKind.wrap_i64]
    congr 1; omega
  · have e : w64 (0 - w64 (u % 2)) = 0 := by rw [show u % 2 = 0 by omega]; decide
    rw [e, xor_zero64 .i64 (.inr rfl), if_neg h]
    simp only [w64, IntKind.wrap_i64]
    congr 1; omega

theorem F_zigR (n : Int) (h0 : -9223372036854775808 ≤ n) (h1 : n ≤ 9223372036854775807) : F_retraceref01_Zig n = some (zigN n) := by
  unfold F_retraceref01_Zig zigN
  by_cases h : n < 0
  · simp only [h, decide_true, cond_true, if_true, w64, wu64, IntKind.wrap_i64, wrapU64]
    congr 1; omega
  · simp only [h, decide_false, cond_false, if_false, wu64, wrapU64]
    congr 1; omega

theorem zig_lo (n : Int) : 0 ≤ zigN n := by unfold zigN; split <;> omega
theorem zig_hi (n : Int) (h0 : -9223372036854775808 ≤ n) (h1 : n ≤ 9223372036854775807) : zigN n ≤ 18446744073709551615 := by unfold zigN; split <;> omega
theorem zag_lo (n : Int) (h0 : 0 ≤ n) (h1 : n ≤ 18446744073709551615) : -9223372036854775808 ≤ zagN n := by unfold zagN; split <;> omega
theorem zag_hi (n : Int) (h0 : 0 ≤ n) (h1 : n ≤ 18446744073709551615) : zagN n ≤ 9223372036854775807 := by unfold zagN; split <;> omega
theorem zag_zig (n : Int) : zagN (zigN n) = n := by unfold zagN zigN; split <;> split <;> omega
theorem zig_zag (u : Int) (h0 : 0 ≤ u) : zigN (zagN u) = u := by unfold zagN zigN; split <;> split <;> omega

theorem live_get : F_vint_Get (⟨#[172, 2]⟩ : ByteArray) 0 = some (300, 2, 0) := by
  have : Loop (fun s : (Int × Int) => F_vint_Get_L5 (⟨#[172, 2]⟩ : ByteArray) 0 s.1 s.2) (0, 0) = some (300, 2, 0) := Loop_of 3 (by kernel_rfl)
  exact Eq.trans (b := Loop (fun s : (Int × Int) => F_vint_Get_L5 (⟨#[172, 2]⟩ : ByteArray) 0 s.1 s.2) (0, 0)) (by kernel_rfl) this
theorem live_size : F_vint_Size 300 = some 2 := Loop_of 3 (by kernel_rfl)
theorem live_put : F_vint_Put (⟨#[]⟩ : ByteArray) 300 = some (⟨#[172, 2]⟩ : ByteArray) := by
  unfold F_vint_Put
  rw [live_size]
  have : Loop (fun s : (Int × (List Int)) => F_vint_Put_L1 s.1 s.2) (300, []) = some (⟨#[172, 2]⟩ : ByteArray) := Loop_of 3 (by kernel_rfl)
  exact Eq.trans (b := Loop (fun s : (Int × (List Int)) => F_vint_Put_L1 s.1 s.2) (300, [])) (by kernel_rfl) this
end Go.Ab
