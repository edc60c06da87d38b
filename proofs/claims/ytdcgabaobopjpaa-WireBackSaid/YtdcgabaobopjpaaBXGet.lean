import Derived.Test.YtdcgabaobopjpaaBQVint4
import Derived.Test.YtdcgabaobopjpaaAbPlain
namespace Go.Ab
set_option linter.unusedVariables false
theorem getV_ok {s : ByteArray} {p u nx : Int} (h : getV s p = (u, nx, 0)) : ∃ a : Nat, p = a ∧ a + (numL u).length ≤ s.size ∧ 0 ≤ u ∧ u ≤ 18446744073709551615 ∧ nx = ((a + (numL u).length : Nat) : Int) ∧ ((sB s).drop a).take (numL u).length = numL u := by
  unfold getV at h
  split at h
  · cases h
  · rename_i hp
    obtain ⟨a, rfl⟩ := Int.eq_ofNat_of_zero_le (show 0 ≤ p by omega)
    obtain ⟨v, h0, h1, h2, h3, h4, _⟩ := getS_bwd _ (fun x hx => sB_mem (List.mem_of_mem_drop hx)) _ 10 0 0 u nx rfl (by decide) (by decide) h
    have hv : u = v := by simpa using h2
    subst hv
    refine ⟨a, rfl, ?_, h0, h1, ?_, ?_⟩
    · have := congrArg List.length h4
      simp [sB_len] at this
      have := (numL_len u).2
      omega
    · rw [h3]; simp
    · simpa using h4
theorem getV_fwd (s : ByteArray) (a : Nat) (u : Int) (rest : List Int) (h0 : 0 ≤ u) (h1 : u ≤ 18446744073709551615) (h : (sB s).drop a = numL u ++ rest) : getV s a = (u, ((a + (numL u).length : Nat) : Int), 0) := by
  have hlen := congrArg List.length h
  simp [sB_len] at hlen
  have := (numL_len u).2
  unfold getV
  rw [if_neg (by omega)]
  have := getS_fwd ((sB s).drop a) (a : Int) 10 0 u 0 rest rfl (by decide) h0 h1 (by simp; omega) (.inr rfl) (by simpa using h)
  rw [Int.toNat_natCast, this]
  simp

end Go.Ab
