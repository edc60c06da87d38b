import Derived.Test.YtilfkpmojnammaaAPStack
namespace Go.Ab
set_option linter.unusedVariables false
theorem cut_eq (l : List ByteArray) (k : Int) (h0 : (l.length : Int) ≤ 1000) (hk : -9223372036854775808 ≤ k ∧ k ≤ 9223372036854775807) :
    F_retraceref23_Cut l k = some (if 0 ≤ k ∧ k ≤ l.length then (l.take (l.length - k.toNat), l.drop (l.length - k.toNat), true) else (l, [], false)) := by
  unfold F_retraceref23_Cut F_retraceref23_Cut_J1
  by_cases n : k < 0
  · rw [dct n, if_neg (by omega)]; rfl
  rw [dcf n, cond_false]
  by_cases b : k ≤ l.length
  · rw [dcf (show ¬ (l.length : Int) < k by omega), if_pos ⟨by omega, b⟩, cond_false, w64i (by omega) (by omega), grd_t ⟨Int.le_refl _, by omega, by omega⟩, grd_t ⟨by omega, by omega, Int.le_refl _⟩, lcut_take l k (by omega) b, lcut_drop l k (by omega) b]
  · rw [dct (show (l.length : Int) < k by omega), if_neg (by omega)]; rfl
abbrev SS := ((List ByteArray) × Int × Int × (List ByteArray)) ⊕ ((List ByteArray) × Int × (List ByteArray) × Int)
def PI (n : Nat) (m : Int) : SS → Prop
  | .inl (h, i, m', l) => m' = m ∧ l = h ∧ 0 ≤ i ∧ i ≤ n ∧ (h.length : Int) ≤ i ∧ (h.length : Int) ≤ m
  | .inr (h, i, l, m') => m' = m ∧ l = h ∧ 0 ≤ i ∧ i ≤ n ∧ (h.length : Int) ≤ i ∧ (h.length : Int) ≤ m
def PM (n : Nat) : SS → Nat
  | .inl (h, i, m', l) => (n - i).toNat
  | .inr (h, i, l, m') => (n - i).toNat
abbrev PT (n : Nat) (m i : Int) : SS ⊕ Bool → Prop := Sum.elim (fun s' => PI n m s' ∧ PM n s' < ((n : Int) - i).toNat) (fun r => r = true)
theorem inl_ok {n : Nat} (hn : n ≤ 100) {m : Int} {i : Int} (h0 : 0 ≤ i) (h1 : i < n) {h : List ByteArray} (hl : (h.length : Int) ≤ i + 1) (hlm : (h.length : Int) ≤ m) : PT n m i (.inl (.inl (h, w64 (i + 1), m, h))) := by
  rw [w64i (by omega) (by omega)]
  exact ⟨⟨rfl, rfl, by omega, by omega, hl, hlm⟩, by show ((n : Int) - (i + 1)).toNat < _; omega⟩
theorem inr_ok {n : Nat} (hn : n ≤ 100) {m : Int} {i : Int} (h0 : 0 ≤ i) (h1 : i < n) {h : List ByteArray} (hl : (h.length : Int) ≤ i + 1) (hlm : (h.length : Int) ≤ m) : PT n m i (.inl (.inr (h, w64 (i + 1), h, m))) := by
  rw [w64i (by omega) (by omega)]
  exact ⟨⟨rfl, rfl, by omega, by omega, hl, hlm⟩, by show ((n : Int) - (i + 1)).toNat < _; omega⟩
theorem pm0 {p m : Int} (hp : -9223372036854775808 ≤ p ∧ p ≤ 9223372036854775807) (hm : m = if 0 > p then 0 else p) {h : List ByteArray} : 0 ≤ m ∧ m ≤ 9223372036854775807 ∧ (if 0 > p then 0 else p) - (h.length : Int) = m - h.length := by rw [← hm]; split at hm <;> omega
theorem j5_ok {n : Nat} (hn : n ≤ 100) {p m : Int} (hp : -9223372036854775808 ≤ p ∧ p ≤ 9223372036854775807) (hm : m = if 0 > p then 0 else p) {i : Int} (h0 : 0 ≤ i) (h1 : i < n) {h : List ByteArray} (hl : (h.length : Int) ≤ i + 1) (hlm : (h.length : Int) ≤ m) : OkP (F_retracelaw23_StackPlays_J5 p i h m h) (PT n m i) := by
  obtain ⟨q1, q2, q3⟩ := pm0 (h := h) hp hm
  unfold F_retracelaw23_StackPlays_J5 F_stack_Stack_string_Len F_retracelaw23_StackPlays_J6 F_retracelaw23_StackPlays_J3
  rw [(room_eq h m (by omega) q1 q2).1, q3, w64i (n := m - (h.length : Int)) (by omega) (by omega)]
  simp only [Option.bind_some, bne, beq_self_eq_true, Bool.not_true, cond_false]
  exact OkP.ret (inl_ok hn h0 h1 hl hlm)
theorem j7_ok {n : Nat} (hn : n ≤ 100) {p m : Int} (hp : -9223372036854775808 ≤ p ∧ p ≤ 9223372036854775807) (hm : m = if 0 > p then 0 else p) {i : Int} (h0 : 0 ≤ i) (h1 : i < n) {h : List ByteArray} (hl : (h.length : Int) ≤ i + 1) (hlm : (h.length : Int) ≤ m) : OkP (F_retracelaw23_StackPlays_J7 p i h h m) (PT n m i) := by
  obtain ⟨q1, q2, q3⟩ := pm0 (h := h) hp hm
  unfold F_retracelaw23_StackPlays_J7 F_stack_Stack_string_Len_v2 F_retracelaw23_StackPlays_J8 F_retracelaw23_StackPlays_J4
  rw [(room_eq h m (by omega) q1 q2).2, q3, w64i (n := m - (h.length : Int)) (by omega) (by omega)]
  simp only [Option.bind_some, bne, beq_self_eq_true, Bool.not_true, cond_false]
  exact OkP.ret (inr_ok hn h0 h1 hl hlm)
theorem j20_ok {n : Nat} (hn : n ≤ 100) {p m : Int} (hp : -9223372036854775808 ≤ p ∧ p ≤ 9223372036854775807) (hm : m = if 0 > p then 0 else p) {i : Int} (h0 : 0 ≤ i) (h1 : i < n) {h : List ByteArray} (hl : (h.length : Int) ≤ i + 1) (hlm : (h.length : Int) ≤ m) : OkP (F_retracelaw23_StackPlays_J20 p i h h m) (PT n m i) := by
  obtain ⟨q1, q2, q3⟩ := pm0 (h := h) hp hm
  unfold F_retracelaw23_StackPlays_J20 F_stack_Stack_string_Len_v2 F_retracelaw23_StackPlays_J21 F_retracelaw23_StackPlays_J18
  rw [(room_eq h m (by omega) q1 q2).2, q3, w64i (n := m - (h.length : Int)) (by omega) (by omega)]
  simp only [Option.bind_some, bne, beq_self_eq_true, Bool.not_true, cond_false]
  exact OkP.ret (inr_ok hn h0 h1 hl hlm)
theorem j22_ok {n : Nat} (hn : n ≤ 100) {p m : Int} (hp : -9223372036854775808 ≤ p ∧ p ≤ 9223372036854775807) (hm : m = if 0 > p then 0 else p) {i : Int} (h0 : 0 ≤ i) (h1 : i < n) {h : List ByteArray} (hl : (h.length : Int) ≤ i + 1) (hlm : (h.length : Int) ≤ m) : OkP (F_retracelaw23_StackPlays_J22 p i h m h) (PT n m i) := by
  obtain ⟨q1, q2, q3⟩ := pm0 (h := h) hp hm
  unfold F_retracelaw23_StackPlays_J22 F_stack_Stack_string_Len F_retracelaw23_StackPlays_J23 F_retracelaw23_StackPlays_J19
  rw [(room_eq h m (by omega) q1 q2).1, q3, w64i (n := m - (h.length : Int)) (by omega) (by omega)]
  simp only [Option.bind_some, bne, beq_self_eq_true, Bool.not_true, cond_false]
  exact OkP.ret (inl_ok hn h0 h1 hl hlm)
theorem law_plays (p : Int) (l : List T_retracelaw23_Act) (hp : -9223372036854775808 ≤ p ∧ p ≤ 9223372036854775807) (hN : ∀ a ∈ l, -9223372036854775808 ≤ a.N ∧ a.N ≤ 9223372036854775807) : F_retracelaw23_StackPlays p l = some true := by
  unfold F_retracelaw23_StackPlays
  rw [ev_retracelaw23_live]
  by_cases h : 100 < (l.length : Int)
  · rw [dct h]
    unfold F_retracelaw23_StackPlays_J1
    rw [ev_retracelaw23_live]; rfl
  rw [dcf h]
  simp only [cond_false, Option.bind_some, Bool.not_true]
  unfold F_retracelaw23_StackPlays_J1 F_stack_New_string
  simp only [cond_false, Option.bind_some]
  have hn : l.length ≤ 100 := by omega
  generalize hm : (if 0 > p then 0 else p) = m
  have hm := hm.symm
  have hm0 : 0 ≤ m := by split at hm <;> omega
  have hm1 : m ≤ 9223372036854775807 := by split at hm <;> omega
  have key := Loop_ok (step := Sum.elim (fun s : (List ByteArray) × Int × Int × (List ByteArray) => F_retracelaw23_StackPlays_L17 p l s.1 s.2.1 s.2.2.1 s.2.2.2) (fun s : (List ByteArray) × Int × (List ByteArray) × Int => F_retracelaw23_StackPlays_L28 p l s.1 s.2.1 s.2.2.1 s.2.2.2)) (Q := fun r => r = true) (PI l.length m) (PM l.length) (fun s hs => ?_) (.inl ([], 0, m, [])) ⟨rfl, rfl, Int.le_refl _, by omega, Int.le_refl _, hm0⟩
  · obtain ⟨r, e, q⟩ := key
    exact e.trans (by rw [q])
  · rcases s with ⟨h, i, m', k⟩ | ⟨h, i, k, m'⟩
    · obtain ⟨rfl, rfl, h0, hi, hl, hlm⟩ := hs
      show OkP (F_retracelaw23_StackPlays_L17 p l k i m' k) (PT l.length m' i)
      unfold F_retracelaw23_StackPlays_L17
      refine OkP.condD (fun hv => ?_) (fun _ => OkP.map ?_)
      · obtain ⟨a, ea, ha⟩ := lAt_ok h0 hv
        have haN := hN a ha
        rw [ea]
        simp only [Option.bind_some]
        refine OkP.condE (fun _ => ?_) (fun _ => OkP.condE (fun _ => ?_) (fun _ => ?_))
        · rw [push_r _ _ _ (by omega) hm0 hm1]
          simp only [Option.bind_some]
          by_cases hf : m' = k.length
          · rw [if_pos hf, dcf (show ¬ (k.length : Int) < p by split at hm <;> omega)]
            simp only [cond_false, beq_self_eq_true, Bool.not_true]
            exact j5_ok hn hp hm h0 hv (by omega) hlm
          · rw [if_neg hf, dct (show (k.length : Int) < p by split at hm <;> omega)]
            simp only [cond_false, cond_true, beq_self_eq_true, Bool.not_true]
            rw [grd_t (by simp; omega), grd_t (by simp; omega), List.nil_append]
            exact j5_ok hn hp hm h0 hv (by simp; omega) (by simp; omega)
        · rw [cut_eq _ _ (by omega) (by omega), pop_r _ _ (by omega)]
          simp only [Option.bind_some]
          by_cases hk : 0 < k.length
          · rw [if_pos (by omega), dif_pos hk, show (1 : Int).toNat = 1 from rfl]
            simp only [Sum.elim_inr]
            unfold F_retracelaw23_StackPlays_J11 F_retracelaw23_StackPlays_J12
            rw [top_at k hk]
            simp only [Option.bind_some, beq_self_eq_true, Bool.not_true, cond_false, cond_true]
            exact j7_ok hn hp hm h0 hv (by rw [List.length_take]; omega) (by rw [List.length_take]; omega)
          · rw [if_neg (by omega), dif_neg hk]
            simp only [Sum.elim_inl]
            unfold F_retracelaw23_StackPlays_J9 F_retracelaw23_StackPlays_J10
            simp only [beq_self_eq_true, Bool.not_true, Bool.not_false, cond_false, cond_true]
            exact j5_ok hn hp hm h0 hv (by omega) hlm
        · rw [cut_eq _ _ (by omega) haN, take_r _ _ _ (by omega) haN]
          simp only [Option.bind_some]
          by_cases hk : 0 ≤ a.N ∧ a.N ≤ k.length
          · rw [if_pos hk, if_pos hk]
            simp only [Sum.elim_inr]
            unfold F_retracelaw23_StackPlays_J15 F_retracelaw23_StackPlays_J16
            rw [same_s _ (by rw [List.length_drop]; omega)]
            simp only [Option.bind_some, beq_self_eq_true, Bool.not_true, cond_false, cond_true]
            exact j7_ok hn hp hm h0 hv (by rw [List.length_take]; omega) (by rw [List.length_take]; omega)
          · rw [if_neg hk, if_neg hk]
            simp only [Sum.elim_inl]
            unfold F_retracelaw23_StackPlays_J13 F_retracelaw23_StackPlays_J14
            rw [same_s [] (by simp)]
            simp only [Option.bind_some, beq_self_eq_true, Bool.not_true, cond_false, cond_true]
            exact j5_ok hn hp hm h0 hv (by omega) hlm
      · unfold F_retracelaw23_StackPlays_J2
        rw [ev_retracelaw23_live]
        exact OkP.ret rfl
    · obtain ⟨rfl, rfl, h0, hi, hl, hlm⟩ := hs
      show OkP (F_retracelaw23_StackPlays_L28 p l k i k m') (PT l.length m' i)
      unfold F_retracelaw23_StackPlays_L28
      refine OkP.condD (fun hv => ?_) (fun _ => OkP.map ?_)
      · obtain ⟨a, ea, ha⟩ := lAt_ok h0 hv
        have haN := hN a ha
        rw [ea]
        simp only [Option.bind_some]
        refine OkP.condE (fun _ => ?_) (fun _ => OkP.condE (fun _ => ?_) (fun _ => ?_))
        · rw [push_t _ _ _ (by omega) hm0 hm1]
          simp only [Option.bind_some]
          by_cases hf : m' = k.length
          · rw [if_pos hf]
            simp only [Sum.elim_inl]
            unfold F_retracelaw23_StackPlays_J24
            rw [dcf (show ¬ (k.length : Int) < p by split at hm <;> omega)]
            simp only [cond_false, beq_self_eq_true, Bool.not_true]
            exact j20_ok hn hp hm h0 hv (by omega) hlm
          · rw [if_neg hf]
            simp only [Sum.elim_inr]
            unfold F_retracelaw23_StackPlays_J25
            rw [dct (show (k.length : Int) < p by split at hm <;> omega)]
            simp only [cond_false, cond_true, beq_self_eq_true, Bool.not_true]
            rw [grd_t (by simp; omega), grd_t (by simp; omega), List.nil_append]
            exact j22_ok hn hp hm h0 hv (by simp; omega) (by simp; omega)
        · rw [cut_eq _ _ (by omega) (by omega), pop_t _ _ (by omega)]
          simp only [Option.bind_some]
          by_cases hk : 0 < k.length
          · rw [if_pos (by omega), dif_pos hk, show (1 : Int).toNat = 1 from rfl]
            simp only
            unfold F_retracelaw23_StackPlays_J26
            rw [top_at k hk]
            simp only [Option.bind_some, beq_self_eq_true, Bool.not_true, cond_false, cond_true]
            exact j20_ok hn hp hm h0 hv (by rw [List.length_take]; omega) (by rw [List.length_take]; omega)
          · rw [if_neg (by omega), dif_neg hk]
            simp only
            unfold F_retracelaw23_StackPlays_J26
            simp only [beq_self_eq_true, Bool.not_true, Bool.not_false, cond_false, cond_true]
            exact j20_ok hn hp hm h0 hv (by omega) hlm
        · rw [cut_eq _ _ (by omega) haN, take_t _ _ _ (by omega) haN]
          simp only [Option.bind_some]
          by_cases hk : 0 ≤ a.N ∧ a.N ≤ k.length
          · rw [if_pos hk, if_pos hk]
            simp only
            unfold F_retracelaw23_StackPlays_J27
            rw [same_s _ (by rw [List.length_drop]; omega)]
            simp only [Option.bind_some, beq_self_eq_true, Bool.not_true, cond_false, cond_true]
            exact j20_ok hn hp hm h0 hv (by rw [List.length_take]; omega) (by rw [List.length_take]; omega)
          · rw [if_neg hk, if_neg hk]
            simp only
            unfold F_retracelaw23_StackPlays_J27
            rw [same_s [] (by simp)]
            simp only [Option.bind_some, beq_self_eq_true, Bool.not_true, cond_false, cond_true]
            exact j20_ok hn hp hm h0 hv (by omega) hlm
      · unfold F_retracelaw23_StackPlays_J2
        rw [ev_retracelaw23_live]
        exact OkP.ret rfl
end Go.Ab
