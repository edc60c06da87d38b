import Derived.Test.YtilfkpmojnammaaGSa
import Derived.Test.YtilfkpmojnammaaGSaX
import Derived.Test.YtilfkpmojnammaaAbTot
namespace Go.Ab
set_option linter.unusedVariables false
theorem lcut_take (l : List ByteArray) (k : Int) (h0 : 0 ≤ k) (h1 : k ≤ l.length) : lCut l 0 ((l.length : Int) - k) = l.take (l.length - k.toNat) := by
  unfold lCut
  rw [Int.toNat_zero, List.drop_zero, show ((l.length : Int) - k - 0).toNat = l.length - k.toNat by omega]
theorem lcut_drop (l : List ByteArray) (k : Int) (h0 : 0 ≤ k) (h1 : k ≤ l.length) : lCut l ((l.length : Int) - k) (l.length : Int) = l.drop (l.length - k.toNat) := by
  unfold lCut
  rw [show ((l.length : Int) - k).toNat = l.length - k.toNat by omega, List.take_of_length_le (by rw [List.length_drop]; omega)]
theorem room_eq (l : List ByteArray) (m : Int) (h0 : (l.length : Int) ≤ 1000) (h1 : 0 ≤ m) (h2 : m ≤ 9223372036854775807) : F_stack_Stack_string_Room ⟨l, m⟩ = some (m - l.length) ∧ F_stack_Stack_string_Room_v2 ⟨l, m⟩ = some (m - l.length) := by
  unfold F_stack_Stack_string_Room F_stack_Stack_string_Room_v2
  rw [w64i (by show _ ≤ m - (l.length : Int); omega) (by show m - (l.length : Int) ≤ _; omega)]
  exact ⟨rfl, rfl⟩
theorem push_r (x : ByteArray) (l : List ByteArray) (m : Int) (h0 : (l.length : Int) ≤ 1000) (h1 : 0 ≤ m) (h2 : m ≤ 9223372036854775807) :
    F_stack_Stack_string_Push x ⟨l, m⟩ = some (if m = l.length then (false, ⟨l, m⟩) else (true, ⟨l ++ [x], m⟩)) := by
  unfold F_stack_Stack_string_Push
  rw [(room_eq l m h0 h1 h2).1]
  simp only [Option.bind_some]
  by_cases h : m = l.length
  · rw [if_pos h, beqt (show m - (l.length : Int) = 0 by omega)]; rfl
  · rw [if_neg h, beqf (show ¬ m - (l.length : Int) = 0 by omega), cond_false, grd_t (by simp only [List.length_cons, List.length_nil]; omega)]
theorem push_t (x : ByteArray) (l : List ByteArray) (m : Int) (h0 : (l.length : Int) ≤ 1000) (h1 : 0 ≤ m) (h2 : m ≤ 9223372036854775807) :
    F_stack_Stack_string_Push_v2 x ⟨l, m⟩ = some (if m = l.length then .inl false else .inr (true, ⟨l ++ [x], m⟩)) := by
  unfold F_stack_Stack_string_Push_v2
  rw [(room_eq l m h0 h1 h2).2]
  simp only [Option.bind_some]
  by_cases h : m = l.length
  · rw [if_pos h, beqt (show m - (l.length : Int) = 0 by omega)]; rfl
  · rw [if_neg h, beqf (show ¬ m - (l.length : Int) = 0 by omega), cond_false, grd_t ⟨.inl (by simp), by simp only [List.length_cons, List.length_nil]; omega⟩]
theorem clone_eq (l : List ByteArray) (h0 : (l.length : Int) ≤ 1000) : F_slices_Clone_string_string l = some l := by
  unfold F_slices_Clone_string_string
  rw [grd_t (by simp; omega)]
  rfl
theorem take_r (k : Int) (l : List ByteArray) (m : Int) (h0 : (l.length : Int) ≤ 1000) (hk : -9223372036854775808 ≤ k ∧ k ≤ 9223372036854775807) :
    F_stack_Stack_string_Take k ⟨l, m⟩ = some (if 0 ≤ k ∧ k ≤ l.length then .inr (l.drop (l.length - k.toNat), true, ⟨l.take (l.length - k.toNat), m⟩) else .inl ([], false)) := by
  unfold F_stack_Stack_string_Take F_stack_Stack_string_Len F_stack_Stack_string_Take_J1
  simp only [Option.bind_some]
  by_cases n : k < 0
  · rw [dct n, if_neg (by omega)]; rfl
  rw [dcf n, w64i (by omega) (by omega), cond_false]
  by_cases b : k ≤ l.length
  · rw [dcf (show ¬ (l.length : Int) - k < 0 by omega), if_pos ⟨by omega, b⟩, cond_false, grd_t ⟨by omega, by omega, Int.le_refl _⟩, lcut_drop l k (by omega) b, clone_eq _ (by rw [List.length_drop]; omega)]
    simp only [Option.bind_some]
    rw [grd_t ⟨Int.le_refl _, by omega, by omega, trivial⟩, lcut_take l k (by omega) b]
  · rw [dct (show (l.length : Int) - k < 0 by omega), if_neg (by omega)]; rfl
theorem take_t (k : Int) (l : List ByteArray) (m : Int) (h0 : (l.length : Int) ≤ 1000) (hk : -9223372036854775808 ≤ k ∧ k ≤ 9223372036854775807) :
    F_stack_Stack_string_Take_v2 k ⟨l, m⟩ = some (if 0 ≤ k ∧ k ≤ l.length then (l.drop (l.length - k.toNat), true, ⟨l.take (l.length - k.toNat), m⟩) else ([], false, ⟨l, m⟩)) := by
  unfold F_stack_Stack_string_Take_v2 F_stack_Stack_string_Len_v2 F_stack_Stack_string_Take_v2_J1
  simp only [Option.bind_some]
  by_cases n : k < 0
  · rw [dct n, if_neg (by omega)]; rfl
  rw [dcf n, w64i (by omega) (by omega), cond_false]
  by_cases b : k ≤ l.length
  · rw [dcf (show ¬ (l.length : Int) - k < 0 by omega), if_pos ⟨by omega, b⟩, cond_false, grd_t ⟨by omega, by omega, Int.le_refl _⟩, lcut_drop l k (by omega) b, clone_eq _ (by rw [List.length_drop]; omega)]
    simp only [Option.bind_some]
    rw [grd_t ⟨Int.le_refl _, by omega, by omega, trivial⟩, lcut_take l k (by omega) b]
  · rw [dct (show (l.length : Int) - k < 0 by omega), if_neg (by omega)]; rfl
theorem top_at (l : List ByteArray) (h : 0 < l.length) : lAt (l.drop (l.length - 1)) 0 = some l[l.length - 1] := by
  rw [show (0 : Int) = ((0 : Nat) : Int) from rfl, lAtn, List.getElem?_drop, Nat.add_zero, List.getElem?_eq_getElem]
theorem pop_r (l : List ByteArray) (m : Int) (h0 : (l.length : Int) ≤ 1000) :
    F_stack_Stack_string_Pop ⟨l, m⟩ = some (if h : 0 < l.length then .inr (l[l.length - 1], true, ⟨l.take (l.length - 1), m⟩) else .inl ((⟨#[]⟩ : ByteArray), false)) := by
  unfold F_stack_Stack_string_Pop
  rw [take_r 1 l m h0 (by omega)]
  simp only [Option.bind_some]
  by_cases h : 0 < l.length
  · rw [if_pos (by omega), dif_pos h]
    simp only [Sum.elim_inr]
    unfold F_stack_Stack_string_Pop_J2
    rw [show (1 : Int).toNat = 1 from rfl, top_at l h]
    rfl
  · rw [if_neg (by omega), dif_neg h]
    rfl
theorem pop_t (l : List ByteArray) (m : Int) (h0 : (l.length : Int) ≤ 1000) :
    F_stack_Stack_string_Pop_v2 ⟨l, m⟩ = some (if h : 0 < l.length then (l[l.length - 1], true, ⟨l.take (l.length - 1), m⟩) else ((⟨#[]⟩ : ByteArray), false, ⟨l, m⟩)) := by
  unfold F_stack_Stack_string_Pop_v2
  rw [take_t 1 l m h0 (by omega)]
  simp only [Option.bind_some]
  by_cases h : 0 < l.length
  · rw [if_pos (by omega), dif_pos h]
    simp only
    rw [show (1 : Int).toNat = 1 from rfl, top_at l h]
    rfl
  · rw [if_neg (by omega), dif_neg h]
    rfl
theorem same_s (l : List ByteArray) (h : l.length ≤ 1000) : F_retraceref23_Same l l = some true := by
  unfold F_retraceref23_Same
  rw [show ((l.length : Int) != (l.length : Int)) = false by simp, cond_false]
  refine Loop_nat (fun k => (k : Int)) l.length (fun k hk => ?_) ?_
  · show F_retraceref23_Same_L1 l l (k : Int) = _
    unfold F_retraceref23_Same_L1
    rw [dct (by omega), lAt_lt hk]
    simp only [cond_true, Option.bind_some, beq_self_eq_true, Bool.not_true, cond_false]
    rw [w64s (by omega)]
  · show F_retraceref23_Same_L1 l l (l.length : Int) = _
    unfold F_retraceref23_Same_L1
    rw [dcf (by omega)]; rfl
end Go.Ab
