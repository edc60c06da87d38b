import Derived.Test.YtilfkpmojnammaaPStack
namespace Go.Ab
set_option linter.unusedVariables false
theorem order_end (p : List ByteArray) (x : ByteArray) (hp : p.length ≤ 100) (m : Int) : F_retracelaw23_StackOrder_J35 p x true p m [x] [] (p.length : Int) = some true := by
  unfold F_retracelaw23_StackOrder_J35 F_retracelaw23_StackOrder_J36
  rw [cond_true, same_s p (by omega)]
  simp only [Option.bind_some, cond_true]
  unfold F_stack_Stack_string_Len F_stack_Stack_string_Len_v2
  simp only [Option.bind_some, List.length_cons, List.length_nil]
  rw [beqt (show (((0 + 1 : Nat)) : Int) = 1 by omega), cond_true, beqt (show ((0 : Nat) : Int) = 0 from rfl), cond_true, push_t x [] (p.length : Int) (by simp) (by omega) (by omega), ev_retracelaw23_live]
  simp only [Option.bind_some, List.length_nil]
  by_cases h : (p.length : Int) = ((0 : Nat) : Int)
  · rw [if_pos h]
    simp only [Sum.elim_inl]
    rw [beqt (show (p.length : Int) = 0 by omega)]
    rfl
  · rw [if_neg h]
    simp only [Sum.elim_inr]
    rw [beqf (show ¬ (p.length : Int) = 0 by omega)]
    rfl
theorem order_back (p : List ByteArray) (x : ByteArray) (hp : p.length ≤ 100) (m : Int) : F_retracelaw23_StackOrder_J32 p x (p.length : Int) p true p m [x] = some true := by
  unfold F_retracelaw23_StackOrder_J32
  rw [w64i (by omega) (by omega)]
  -- behind the first round the other stack is cut off
  have tail : ∀ n : Nat, n ≤ p.length → Loop (Sum.elim (fun s : Int => F_retracelaw23_StackOrder_L43 p x (p.length : Int) p true p m [x] s) (fun s : Int × (List ByteArray) × Int => F_retracelaw23_StackOrder_L45 p x true p m [x] s.1 s.2.1 s.2.2)) (.inr ((n : Int) - 1, p.take n, (p.length : Int))) = some true := by
    intro n
    induction n with
    | zero =>
      intro _
      refine Loop_inr ?_
      show F_retracelaw23_StackOrder_L45 p x true p m [x] (((0 : Nat) : Int) - 1) (p.take 0) (p.length : Int) = _
      unfold F_retracelaw23_StackOrder_L45
      rw [dcf (by omega), cond_false, List.take_zero, order_end p x hp m]
      rfl
    | succ n ih =>
      intro hn
      have hl : (p.take (n + 1)).length = n + 1 := by rw [List.length_take]; omega
      have e : F_retracelaw23_StackOrder_L45 p x true p m [x] (((n + 1 : Nat) : Int) - 1) (p.take (n + 1)) (p.length : Int) = some (.inl (.inr ((n : Int) - 1, p.take n, (p.length : Int)))) := by
        unfold F_retracelaw23_StackOrder_L45 F_retracelaw23_StackOrder_J44
        rw [dct (by omega), cond_true, pop_t _ _ (by omega), dif_pos (by omega)]
        have h1 : (p.take (n + 1))[(p.take (n + 1)).length - 1]'(by omega) = p[n] := by simp only [hl, Nat.add_sub_cancel, List.getElem_take]
        have h2 : (p.take (n + 1)).take ((p.take (n + 1)).length - 1) = p.take n := by rw [hl, List.take_take]; congr 1; omega
        simp only [Option.bind_some, Bool.not_true, cond_false]
        rw [h1, h2, show ((n + 1 : Nat) : Int) - 1 = (n : Int) by omega, lAt_lt (show n < p.length by omega)]
        simp only [Option.bind_some, beq_self_eq_true, Bool.not_true, cond_false]
        rw [w64i (by omega) (by omega)]
      refine (Loop_inl (step := Sum.elim (fun s : Int => F_retracelaw23_StackOrder_L43 p x (p.length : Int) p true p m [x] s) (fun s : Int × (List ByteArray) × Int => F_retracelaw23_StackOrder_L45 p x true p m [x] s.1 s.2.1 s.2.2)) (s := .inr (((n + 1 : Nat) : Int) - 1, p.take (n + 1), (p.length : Int))) e).trans (ih (by omega))
  by_cases h : 0 < p.length
  · have e : F_retracelaw23_StackOrder_L43 p x (p.length : Int) p true p m [x] ((p.length : Int) - 1) = some (.inl (.inr (((p.length - 1 : Nat) : Int) - 1, p.take (p.length - 1), (p.length : Int)))) := by
      unfold F_retracelaw23_StackOrder_L43
      rw [dct (by omega), cond_true, pop_r _ _ (by omega), dif_pos h]
      simp only [Option.bind_some, Sum.elim_inr]
      unfold F_retracelaw23_StackOrder_J41 F_retracelaw23_StackOrder_J42 F_retracelaw23_StackOrder_J38
      rw [show (p.length : Int) - 1 = ((p.length - 1 : Nat) : Int) by omega, lAt_lt (show p.length - 1 < p.length by omega)]
      simp only [Option.bind_some, beq_self_eq_true, Bool.not_true, cond_false]
      rw [w64i (by omega) (by omega)]
    exact (Loop_inl (step := Sum.elim (fun s : Int => F_retracelaw23_StackOrder_L43 p x (p.length : Int) p true p m [x] s) (fun s : Int × (List ByteArray) × Int => F_retracelaw23_StackOrder_L45 p x true p m [x] s.1 s.2.1 s.2.2)) (s := .inl ((p.length : Int) - 1)) e).trans (tail (p.length - 1) (by omega))
  · have hn : p = [] := List.length_eq_zero_iff.mp (by omega)
    subst hn
    refine Loop_inr ?_
    show F_retracelaw23_StackOrder_L43 [] x (([] : List ByteArray).length : Int) [] true [] m [x] ((([] : List ByteArray).length : Int) - 1) = _
    unfold F_retracelaw23_StackOrder_L43 F_retracelaw23_StackOrder_J33 F_retracelaw23_StackOrder_J34 F_stack_Stack_string_Len
    rw [dcf (by simp), cond_false, cond_true, same_s [] (by simp), push_r x [] _ (by simp) (by simp) (by simp), ev_retracelaw23_live]
    rfl
theorem law_order (p : List ByteArray) (x : ByteArray) : F_retracelaw23_StackOrder p x = some true := by
  unfold F_retracelaw23_StackOrder
  rw [ev_retracelaw23_live]
  by_cases h : 100 < (p.length : Int)
  · rw [dct h]
    unfold F_retracelaw23_StackOrder_J1
    rw [ev_retracelaw23_live]; rfl
  rw [dcf h]
  simp only [cond_false, Option.bind_some, Bool.not_true]
  unfold F_retracelaw23_StackOrder_J1 F_stack_New_string
  rw [w64i (by omega) (by omega)]
  simp only [cond_false, Option.bind_some]
  rw [if_neg (by omega), if_neg (by omega)]
  have e := Loop_nat (step := fun s : (Int × Int × (List ByteArray) × Int × (List ByteArray)) => F_retracelaw23_StackOrder_L46 p x s.1 s.2.1 s.2.2.1 s.2.2.2.1 s.2.2.2.2) (r := true)
    (fun k => ((k : Int), (p.length : Int) + 1, p.take k, (p.length : Int), p.take k)) p.length (fun k hk => ?_) ?_
  · exact e
  · show F_retracelaw23_StackOrder_L46 p x (k : Int) ((p.length : Int) + 1) (p.take k) (p.length : Int) (p.take k) = _
    have hl : (p.take k).length = k := by rw [List.length_take]; omega
    unfold F_retracelaw23_StackOrder_L46 F_retracelaw23_StackOrder_J2
    rw [dct (by omega), lAt_lt hk]
    simp only [cond_true, Option.bind_some]
    rw [push_r _ _ _ (by omega) (by omega) (by omega), if_neg (by omega)]
    simp only [Option.bind_some, Bool.not_true, cond_false]
    rw [push_r _ _ _ (by omega) (by omega) (by omega), if_neg (by omega)]
    simp only [Option.bind_some, Bool.not_true, cond_false]
    rw [w64s (by omega), take_snoc hk]
  · show F_retracelaw23_StackOrder_L46 p x (p.length : Int) ((p.length : Int) + 1) (p.take p.length) (p.length : Int) (p.take p.length) = _
    unfold F_retracelaw23_StackOrder_L46
    rw [dcf (by omega), cond_false, List.take_length, take_r _ _ _ (by omega) (by omega), if_pos ⟨by omega, Int.le_refl _⟩, show p.length - (p.length : Int).toNat = 0 by omega]
    simp only [Option.bind_some, Sum.elim_inr, List.drop_zero, List.take_zero]
    unfold F_retracelaw23_StackOrder_J17
    rw [push_t _ _ _ (by simp) (by omega) (by omega), if_neg (by simp; omega)]
    simp only [Option.bind_some, Sum.elim_inr, List.nil_append]
    rw [order_back p x (by omega)]
    rfl
end Go.Ab
