import Derived.Test.YtilfkpmojnammaaGSc
import Derived.Test.YtilfkpmojnammaaGScX
import Derived.Test.YtilfkpmojnammaaAbTot
namespace Go.Ab
set_option linter.unusedVariables false
theorem pop0 : F_stack_Stack_string_Pop_v2 ⟨[], 0⟩ = some (.inl ((⟨#[]⟩ : ByteArray), false)) := by
  simp [F_stack_Stack_string_Pop_v2, F_stack_Stack_string_Take_v2, F_stack_Stack_string_Len_v2, F_stack_Stack_string_Take_v2_J1, F_stack_Stack_string_Pop_v2_J1, IntKind.wrap_i64]
theorem take0 (k : Int) (h1 : 1 ≤ k) (h2 : k ≤ 9223372036854775807) : F_stack_Stack_string_Take_v2 k ⟨[], 0⟩ = some (.inl ([], false)) := by
  unfold F_stack_Stack_string_Take_v2 F_stack_Stack_string_Len_v2
  simp only [Option.bind_some, List.length_nil]
  rw [dcf (show ¬ k < 0 by omega), w64i (by simp; omega) (by simp; omega), dct (by simp; omega)]
  rfl
theorem push0 (x : ByteArray) : F_stack_Stack_string_Push_v2 x ⟨[], 0⟩ = some (false, ⟨[], 0⟩) := by
  simp [F_stack_Stack_string_Push_v2, F_stack_Stack_string_Room_v2, IntKind.wrap_i64]
theorem law_none (x : ByteArray) (n : Int) (h : -9223372036854775808 ≤ n ∧ n ≤ 9223372036854775807) : F_retracelaw23_StackNone x n = some true := by
  have e1 : F_stack_New_string 0 = some ⟨[], 0⟩ := rfl
  have e2 : F_stack_New_string (if 0 < n then 0 else n) = some ⟨[], 0⟩ := by
    unfold F_stack_New_string
    by_cases hn : 0 < n
    · rw [if_pos hn]; rfl
    · rw [if_neg hn]
      by_cases h0 : 0 > n
      · rw [if_pos h0]
      · rw [if_neg h0, show n = 0 by omega]
  have e3 := take0 (if 1 > n then 1 else n) (by split <;> omega) (by split <;> omega)
  have e4 : F_stack_Stack_string_Pop = some ((⟨#[]⟩ : ByteArray), false) := rfl
  have e5 : F_stack_Stack_string_Take (if 1 > n then 1 else n) = some ([], false) := rfl
  have e6 : F_stack_Stack_string_Push x = some false := rfl
  have e7 : F_stack_Stack_string_Len = some 0 := rfl
  have e8 : F_stack_Stack_string_Room = some 0 := rfl
  have e9 : F_stack_Stack_string_Len_v2 ⟨[], 0⟩ = some 0 := rfl
  have e10 : F_stack_Stack_string_Room_v2 ⟨[], 0⟩ = some 0 := by simp [F_stack_Stack_string_Room_v2, IntKind.wrap_i64]
  unfold F_retracelaw23_StackNone
  rw [e1, e2, e4, e5, e6, e7, e8]
  simp only [Option.bind_some, cond_false, beq_self_eq_true, Bool.not_true, bne]
  unfold F_retracelaw23_StackNone_J2
  simp only [pop0, Option.bind_some, Sum.elim_inl, cond_false]
  unfold F_retracelaw23_StackNone_J27
  simp only [e3, Option.bind_some, Sum.elim_inl]
  unfold F_retracelaw23_StackNone_J28
  simp only [push0, e9, e10, Option.bind_some, cond_false, beq_self_eq_true, Bool.not_true, bne, List.length_nil, Int.ofNat_zero]
  unfold F_retracelaw23_StackNone_J29
  simp only [cond_false]
  unfold F_retracelaw23_StackNone_J3
  simp only [pop0, Option.bind_some, Sum.elim_inl, cond_false]
  unfold F_retracelaw23_StackNone_J6
  simp only [e3, Option.bind_some, Sum.elim_inl]
  unfold F_retracelaw23_StackNone_J7
  simp only [push0, e9, e10, Option.bind_some, cond_false, beq_self_eq_true, Bool.not_true, bne, List.length_nil]
  unfold F_retracelaw23_StackNone_J8 F_retracelaw23_StackNone_J4 F_retracelaw23_StackNone_J1
  rw [ev_retracelaw23_live]
  rfl
end Go.Ab
