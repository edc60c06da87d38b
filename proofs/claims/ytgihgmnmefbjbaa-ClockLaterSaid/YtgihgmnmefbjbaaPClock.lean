import Derived.Test.YtgihgmnmefbjbaaGC
import Derived.Test.YtgihgmnmefbjbaaGCX
namespace Go.Ab
set_option linter.unusedVariables false
theorem w64_id {n : Int} (h0 : -9223372036854775808 ≤ n) (h1 : n ≤ 9223372036854775807) : w64 n = n := by rw [w64, IntKind.wrap_i64]; omega
theorem later_eq (a b : Int) (ha : -9223372036854775808 ≤ a ∧ a ≤ 9223372036854775807) (hb : -9223372036854775808 ≤ b ∧ b ≤ 9223372036854775807) : ∃ r, F_clock_Later a b = some r ∧ F_retraceref26_Later a b = some r := by
  unfold F_clock_Later F_retraceref26_Later F_clock_Later_J1 F_retraceref26_Later_J1
  by_cases h1 : a < 0
  · exact ⟨a, by simp [h1], by simp [h1]⟩
  by_cases h2 : 1099511627776 < a
  · exact ⟨a, by simp [h1, h2], by simp [h1, h2]⟩
  by_cases h3 : b < 1
  · exact ⟨a, by simp [h1, h2, h3], by simp [h1, h2, h3]⟩
  have e : w64 (1099511627776 - a) = 1099511627776 - a := w64_id (by omega) (by omega)
  simp only [h1, h2, h3, decide_false, cond_false, e]
  by_cases h4 : 1099511627776 - a < b
  · refine ⟨1099511627776, ?_, ?_⟩
    · rw [if_pos h4, w64_id (by omega) (by omega)]; congr 1; omega
    · simp [h4]
  · refine ⟨a + b, ?_, ?_⟩
    · rw [if_neg h4, w64_id (by omega) (by omega)]
    · simp only [h4, decide_false, cond_false]; rw [w64_id (by omega) (by omega)]
theorem law_later (a b : Int) (ha : -9223372036854775808 ≤ a ∧ a ≤ 9223372036854775807) (hb : -9223372036854775808 ≤ b ∧ b ≤ 9223372036854775807) : F_retracelaw26_ClockLater a b = some true := by
  obtain ⟨r, h1, h2⟩ := later_eq a b ha hb
  unfold F_retracelaw26_ClockLater
  rw [h1, h2, ev_retracelaw26_live]
  simp [F_retracelaw26_ClockLater_J1]
end Go.Ab
