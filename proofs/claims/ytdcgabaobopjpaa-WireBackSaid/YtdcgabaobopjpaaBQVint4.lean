import Derived.Test.YtdcgabaobopjpaaBQVint3
namespace Go.Ab
set_option linter.unusedVariables false

theorem split128 (v p : Int) : (v % 128) * p + (v / 128) * (p * 128) = v * p := by
  have h : v = v % 128 + 128 * (v / 128) := (Int.emod_add_mul_ediv v 128).symm
  have e : (v / 128) * (p * 128) = 128 * (v / 128) * p := by
    rw [Int.mul_comm p 128, ← Int.mul_assoc, Int.mul_comm (v / 128) 128]
  rw [e, ← Int.add_mul, ← h]

theorem getS_fwd (l : List Int) (at_ : Int) : ∀ (d k : Nat) (v acc : Int) (rest : List Int), k + d = 10 → 0 < d → 0 ≤ v → v ≤ 18446744073709551615 → v * 128 ^ k < 18446744073709551616 → (0 < v ∨ k = 0) → l.drop k = numL v ++ rest →
    getS l at_ d k acc = (acc + v * 128 ^ k, at_ + k + (numL v).length, 0) := by
  intro d
  induction d with
  | zero => intro k v acc rest _ h; omega
  | succ d ih =>
    intro k v acc rest hk _ h0 h1 h2 h3 hl
    have hk9 : k ≤ 9 := by omega
    obtain ⟨hp, hpb⟩ := pow_bound hk9
    by_cases hv : v < 128
    · rw [numL_small hv] at hl ⊢
      have hc : l[k]? = some v := by
        have := congrArg (fun q => q[0]?) hl
        simpa using this
      have hb : ¬ ((k = 9 ∧ 1 < v) ∨ (v = 0 ∧ 0 < k)) := by
        rintro (⟨rfl, h⟩ | ⟨rfl, h⟩)
        · have e : (128 : Int) ^ 9 = 9223372036854775808 := by decide
          rw [e] at h2; omega
        · omega
      simp only [getS, hc, if_neg hb, if_pos hv]
      simp
    · rw [numL_big hv h1] at hl ⊢
      have hc : l[k]? = some (v % 128 + 128) := by
        have := congrArg (fun q => q[0]?) hl
        simpa using this
      have hk8 : k ≤ 8 := by
        rcases Nat.lt_or_ge k 9 with h | h
        · omega
        · have : k = 9 := by omega
          subst this
          have e : (128 : Int) ^ 9 = 9223372036854775808 := by decide
          rw [e] at h2; omega
      have hb : ¬ ((k = 9 ∧ 1 < v % 128 + 128) ∨ (v % 128 + 128 = 0 ∧ 0 < k)) := by omega
      have hd : ¬ (v % 128 + 128 < 128) := by omega
      have hpk : (128 : Int) ^ (k + 1) = 128 ^ k * 128 := Int.pow_succ _ _
      have hsp := split128 v (128 ^ k)
      have hn0 : 0 ≤ (v % 128) * 128 ^ k := Int.mul_nonneg (by omega) (Int.le_of_lt hp)
      simp only [getS, hc, if_neg hb, if_neg hd]
      rw [ih (k + 1) (v / 128) _ rest (by omega) (by omega) (by omega) (by omega) (by rw [hpk]; omega) (.inl (by omega)) (by
        have := congrArg (List.drop 1) hl
        simpa [List.drop_drop] using this)]
      rw [hpk, show v % 128 + 128 - 128 = v % 128 by omega]
      simp only [Prod.mk.injEq, and_true]
      constructor
      · omega
      · simp; omega

theorem getS_bwd (l : List Int) (hl : ∀ x ∈ l, 0 ≤ x ∧ x ≤ 255) (at_ : Int) : ∀ (d k : Nat) (acc u nx : Int), k + d = 10 → 0 ≤ acc → acc < 128 ^ k → getS l at_ d k acc = (u, nx, 0) →
    ∃ v, 0 ≤ v ∧ v ≤ 18446744073709551615 ∧ u = acc + v * 128 ^ k ∧ nx = at_ + k + (numL v).length ∧ (l.drop k).take (numL v).length = numL v ∧ (0 < v ∨ k = 0) := by
  intro d
  induction d with
  | zero => intro k acc u nx _ _ _ h; simp [getS] at h
  | succ d ih =>
    intro k acc u nx hk h0 h1 h
    have hr := getS_range l hl at_ (d + 1) k acc hk h0 h1
    rw [h] at hr
    have hk9 : k ≤ 9 := by omega
    obtain ⟨hp, hpb⟩ := pow_bound hk9
    unfold getS at h
    split at h
    · simp at h
    · rename_i c hc
      have hm := hl c (List.mem_of_getElem? hc)
      have hdrop : l.drop k = c :: l.drop (k + 1) := by
        have hlt := lt_of_getL hc
        rw [List.drop_eq_getElem_cons hlt]
        have : l[k] = c := by rw [List.getElem?_eq_getElem hlt] at hc; exact Option.some.inj hc
        rw [this]
      split at h
      · simp at h
      · rename_i hb
        split at h
        · rename_i h128
          simp only [Prod.mk.injEq, and_true] at h
          refine ⟨c, hm.1, by omega, h.1.symm, ?_, ?_, by omega⟩
          · rw [numL_small h128]; simp; omega
          · rw [numL_small h128, hdrop]; rfl
        · rename_i h128
          have hk8 : k ≤ 8 := by
            rcases Nat.lt_or_ge k 9 with h' | h'
            · omega
            · exact absurd (Or.inl ⟨by omega, by omega⟩) hb
          have hpk : (128 : Int) ^ (k + 1) = 128 ^ k * 128 := Int.pow_succ _ _
          have hmul := Int.mul_le_mul_of_nonneg_right (by omega : c - 128 ≤ 127) (Int.le_of_lt hp)
          have hmul0 : 0 ≤ (c - 128) * 128 ^ k := Int.mul_nonneg (by omega) (Int.le_of_lt hp)
          obtain ⟨v', e0, e1, e2, e3, e4, e5⟩ := ih (k + 1) _ u nx (by omega) (by omega) (by omega) h
          have hv' : 0 < v' := by omega
          have hsp := split128 ((c - 128) + 128 * v') (128 ^ k)
          have m1 : ((c - 128) + 128 * v') % 128 = c - 128 := by omega
          have m2 : ((c - 128) + 128 * v') / 128 = v' := by omega
          rw [m1, m2] at hsp
          rw [hpk] at e2
          have hu : u = acc + ((c - 128) + 128 * v') * 128 ^ k := by omega
          have hle : (c - 128) + 128 * v' ≤ ((c - 128) + 128 * v') * 128 ^ k := by
            have := Int.mul_le_mul_of_nonneg_left (show (1 : Int) ≤ 128 ^ k by omega) (show 0 ≤ (c - 128) + 128 * v' by omega)
            omega
          have hr2 : u ≤ 18446744073709551615 := hr.2
          have hbig := numL_big (u := (c - 128) + 128 * v') (by omega) (by omega)
          rw [m1, m2, show c - 128 + 128 = c by omega] at hbig
          refine ⟨(c - 128) + 128 * v', by omega, by omega, hu, ?_, ?_, .inl (by omega)⟩
          · rw [hbig]; simp; omega
          · rw [hbig, hdrop]
            simp only [List.length_cons, List.take_succ_cons]
            rw [e4]
end Go.Ab
