import Derived.Test.YtdcgabaobopjpaaBXWire3
namespace Go.Ab
set_option linter.unusedVariables false
theorem sB_rest (s : ByteArray) (n : Int) (h0 : 0 ≤ n) : sB (restB s n) = (sB s).drop n.toNat := by
  unfold restB
  rw [sB_cut, List.take_of_length_le (by rw [sB_len]; exact Nat.le_refl _)]
/-- a number that was read stood there -/
theorem rNum_back {r : RD} (h : r.e = 0) (h' : (rNum r).2.e = 0) : sB r.s = numL (rNum r).1 ++ sB (rNum r).2.s := by
  have hc : (getV r.s 0).2.2 = 0 := by
    cases hd : decide ((getV r.s 0).2.2 = 0) with
    | true => exact of_decide_eq_true hd
    | false => rw [rNum_err h (of_decide_eq_false hd)] at h'; exact h'
  rw [rNum_ok h hc]
  have e : getV r.s 0 = ((getV r.s 0).1, (getV r.s 0).2.1, 0) := Prod.ext rfl (Prod.ext rfl hc)
  obtain ⟨a, ha, h1, h2, h3, h4, h5⟩ := getV_ok e
  have ha0 : a = 0 := by omega
  subst ha0
  show sB r.s = numL (getV r.s 0).1 ++ sB (restB r.s (getV r.s 0).2.1)
  rw [sB_rest _ _ (by omega), h4, Nat.zero_add, Int.toNat_natCast]
  rw [List.drop_zero] at h5
  conv => lhs; rw [← List.take_append_drop (numL (getV r.s 0).1).length (sB r.s)]
  rw [h5]
theorem rNum_fwd {r : RD} (h : r.e = 0) {u : Int} (h0 : 0 ≤ u) (h1 : u ≤ 18446744073709551615) {rest : List Int} (hs : sB r.s = numL u ++ rest) : ∃ r' : RD, rNum r = (u, r') ∧ r'.e = 0 ∧ sB r'.s = rest := by
  have e := getV_fwd r.s 0 u rest h0 h1 (by rw [List.drop_zero]; exact hs)
  have e' : getV r.s 0 = (u, ((0 + (numL u).length : Nat) : Int), 0) := e
  refine ⟨⟨restB r.s (getV r.s 0).2.1, 0⟩, ?_, rfl, ?_⟩
  · rw [rNum_ok h (by rw [e']), e']
  · rw [e']
    show sB (restB r.s ((0 + (numL u).length : Nat) : Int)) = rest
    rw [sB_rest _ _ (by omega), hs, Nat.zero_add, Int.toNat_natCast, List.drop_left]
theorem rInt_back {r : RD} (h : r.e = 0) (h' : (rInt r).2.e = 0) : sB r.s = intL (rInt r).1 ++ sB (rInt r).2.s := by
  have := rNum_back h h'
  unfold intL rInt
  simp only
  rw [zig_zag _ (rNum_rng r).1]
  exact this
theorem rInt_fwd {r : RD} (h : r.e = 0) {n : Int} (h0 : -9223372036854775808 ≤ n) (h1 : n ≤ 9223372036854775807) {rest : List Int} (hs : sB r.s = intL n ++ rest) : ∃ r' : RD, rInt r = (n, r') ∧ r'.e = 0 ∧ sB r'.s = rest := by
  obtain ⟨a, b⟩ := zigN_rng h0 h1
  obtain ⟨r', e, e1, e2⟩ := rNum_fwd h a b hs
  refine ⟨r', ?_, e1, e2⟩
  unfold rInt
  rw [e, zag_zig]
theorem rInt_rng (r : RD) : -9223372036854775808 ≤ (rInt r).1 ∧ (rInt r).1 ≤ 9223372036854775807 := by
  obtain ⟨a, b⟩ := rNum_rng r
  exact ⟨zag_lo _ a b, zag_hi _ a b⟩
theorem rInt_bad {r : RD} (h : r.e ≠ 0) : rInt r = (0, r) := by
  unfold rInt; rw [rNum_bad h, zag0]
theorem rUpto_fwd {m u : Int} {r : RD} (h : r.e = 0) (h0 : 0 ≤ u) (h1 : u ≤ m) (hm : m ≤ 9223372036854775807) {rest : List Int} (hs : sB r.s = numL u ++ rest) : ∃ r' : RD, rUpto m r = (u, r') ∧ r'.e = 0 ∧ sB r'.s = rest := by
  have e := getV_fwd r.s 0 u rest h0 (by omega) (by rw [List.drop_zero]; exact hs)
  have e' : getV r.s 0 = (u, ((0 + (numL u).length : Nat) : Int), 0) := e
  refine ⟨⟨restB r.s (getV r.s 0).2.1, 0⟩, ?_, rfl, ?_⟩
  · unfold rUpto
    rw [if_neg (by simpa using h), if_neg (by rw [e']; simp), if_neg (by rw [e']; simp only; omega), e']
  · rw [e']
    show sB (restB r.s ((0 + (numL u).length : Nat) : Int)) = rest
    rw [sB_rest _ _ (by omega), hs, Nat.zero_add, Int.toNat_natCast, List.drop_left]
theorem rUpto_back {m : Int} {r : RD} (h : r.e = 0) (h' : (rUpto m r).2.e = 0) : sB r.s = numL (rUpto m r).1 ++ sB (rUpto m r).2.s ∧ 0 ≤ (rUpto m r).1 ∧ (rUpto m r).1 ≤ m := by
  unfold rUpto at h' ⊢
  rw [if_neg (by simpa using h)] at h' ⊢
  split at h'
  · rename_i hc; exact absurd h' hc
  · rename_i hc
    have hc : (getV r.s 0).2.2 = 0 := by omega
    rw [if_neg (by omega)]
    split at h'
    · cases h'
    · rename_i hm
      rw [if_neg hm]
      have e : getV r.s 0 = ((getV r.s 0).1, (getV r.s 0).2.1, 0) := Prod.ext rfl (Prod.ext rfl hc)
      obtain ⟨a, ha, h1, h2, h3, h4, h5⟩ := getV_ok e
      have ha0 : a = 0 := by omega
      subst ha0
      refine ⟨?_, h2, by simp only; omega⟩
      show sB r.s = numL (getV r.s 0).1 ++ sB (restB r.s (getV r.s 0).2.1)
      rw [sB_rest _ _ (by omega), h4, Nat.zero_add, Int.toNat_natCast]
      rw [List.drop_zero] at h5
      conv => lhs; rw [← List.take_append_drop (numL (getV r.s 0).1).length (sB r.s)]
      rw [h5]
theorem endV_0 {r : RD} (h : endV r = 0) : r.e = 0 ∧ r.s.size = 0 := by
  unfold endV at h
  split at h
  · rename_i q
    exact ⟨h, q.resolve_left (fun x => x h)⟩
  · cases h
end Go.Ab
