/- What was put is told; what is told, put again, is the same bytes. -/
import Derived.Test.YtdcgabaobopjpaaPFrame2
namespace Go.Ab
set_option linter.unusedVariables false

theorem ext_mid (A X B : ByteArray) : (A ++ X ++ B).extract A.size (A.size + X.size) = X := by
  apply sB_inj
  rw [sB_cut, sB_app, sB_app]
  apply List.ext_getElem?
  intro q
  simp only [List.getElem?_drop, List.getElem?_take]
  rcases Nat.lt_or_ge q X.size with h | h
  · rw [if_pos (by omega), List.getElem?_append_left (by rw [List.length_append, sB_len, sB_len]; omega), List.getElem?_append_right (by rw [sB_len]; omega), sB_len]
    congr 1; omega
  · rw [if_neg (by omega), List.getElem?_eq_none (by rw [sB_len]; exact h)]
theorem app_assoc (A B C : ByteArray) : A ++ B ++ C = A ++ (B ++ C) := by
  apply sB_inj; simp [sB_app, List.append_assoc]
theorem size_app (A B : ByteArray) : (A ++ B).size = A.size + B.size := ByteArray.size_append
theorem leN_mem (c : Nat) : ∀ x ∈ leN c, 0 ≤ x ∧ x ≤ 255 := by
  intro x hx; unfold leN at hx
  simp only [List.mem_cons, List.mem_nil_iff, or_false] at hx
  rcases hx with rfl | rfl | rfl | rfl <;> omega

theorem next_put (A B : ByteArray) (f : T_api_Frame) (hk0 : 0 ≤ f.Kind) (hk1 : f.Kind ≤ 255) (hs : f.Data.size ≤ 1048576) : nextV (A ++ frB f ++ B) (A.size : Int) = (f, ((A.size + (frB f).size : Nat) : Int), 0) := by
  have hsum := leN_size (moreN 0 (hdrB f.Kind f.Data))
  have hfs : (frB f).size = 1 + (numL f.Data.size).length + f.Data.size + 4 := by unfold frB; rw [size_app, hdr_size, hsum]
  have hsz : (A ++ frB f ++ B).size = A.size + (frB f).size + B.size := by rw [size_app, size_app]
  -- the parts
  have hL : sB (A ++ frB f ++ B) = sB A ++ ([f.Kind] ++ (numL f.Data.size ++ (sB f.Data ++ (sB (strOfNums (leN (moreN 0 (hdrB f.Kind f.Data)))) ++ sB B)))) := by
    unfold frB hdrB
    simp only [sB_app, List.append_assoc]
    rw [sB_num (l := [f.Kind]) (by simp; omega), sB_num (numL_mem (by omega) (by omega))]
  have hget : getV (A ++ frB f ++ B) (((A.size + 1 : Nat)) : Int) = ((f.Data.size : Int), ((A.size + 1 + (numL f.Data.size).length : Nat) : Int), 0) := by
    refine getV_fwd _ _ _ (sB f.Data ++ (sB (strOfNums (leN (moreN 0 (hdrB f.Kind f.Data)))) ++ sB B)) (by omega) (by omega) ?_
    rw [hL, ← List.append_assoc (sB A), List.drop_append, List.drop_eq_nil_of_le (by simp [sB_len])]
    simp [sB_len]
  have hbyte : (sB (A ++ frB f ++ B)).getD A.size 0 = f.Kind := by
    rw [hL, List.getD_eq_getElem?_getD, List.getElem?_append_right (by rw [sB_len]; omega), sB_len, Nat.sub_self]; rfl
  have e1 : (A ++ frB f ++ B).extract A.size (A.size + 1 + (numL f.Data.size).length + f.Data.size) = hdrB f.Kind f.Data := by
    have : A ++ frB f ++ B = A ++ hdrB f.Kind f.Data ++ (strOfNums (leN (moreN 0 (hdrB f.Kind f.Data))) ++ B) := by unfold frB; simp only [app_assoc]
    rw [this]
    have := ext_mid A (hdrB f.Kind f.Data) (strOfNums (leN (moreN 0 (hdrB f.Kind f.Data))) ++ B)
    rw [hdr_size] at this
    rw [show A.size + 1 + (numL f.Data.size).length + f.Data.size = A.size + (1 + (numL f.Data.size).length + f.Data.size) by omega]
    exact this
  have e2 : (A ++ frB f ++ B).extract (A.size + 1 + (numL f.Data.size).length + f.Data.size) (A.size + 1 + (numL f.Data.size).length + f.Data.size + 4) = strOfNums (leN (moreN 0 (hdrB f.Kind f.Data))) := by
    have : A ++ frB f ++ B = (A ++ hdrB f.Kind f.Data) ++ strOfNums (leN (moreN 0 (hdrB f.Kind f.Data))) ++ B := by unfold frB; simp only [app_assoc]
    rw [this]
    have := ext_mid (A ++ hdrB f.Kind f.Data) (strOfNums (leN (moreN 0 (hdrB f.Kind f.Data)))) B
    rw [size_app, hdr_size, hsum] at this
    rw [show A.size + 1 + (numL f.Data.size).length + f.Data.size = A.size + (1 + (numL f.Data.size).length + f.Data.size) by omega]
    exact this
  have e3 : (A ++ frB f ++ B).extract (A.size + 1 + (numL f.Data.size).length) (A.size + 1 + (numL f.Data.size).length + f.Data.size) = f.Data := by
    have : A ++ frB f ++ B = (A ++ strOfNums [f.Kind] ++ strOfNums (numL f.Data.size)) ++ f.Data ++ (strOfNums (leN (moreN 0 (hdrB f.Kind f.Data))) ++ B) := by unfold frB; rw [show hdrB f.Kind f.Data = strOfNums [f.Kind] ++ strOfNums (numL f.Data.size) ++ f.Data from rfl]; simp only [app_assoc]
    rw [this]
    have := ext_mid (A ++ strOfNums [f.Kind] ++ strOfNums (numL f.Data.size)) f.Data (strOfNums (leN (moreN 0 (hdrB f.Kind f.Data))) ++ B)
    rw [size_app, size_app, num_size, num_size] at this
    exact this
  unfold nextV
  rw [if_neg (by rw [hsz]; omega), if_neg (by rw [hsz, hfs]; omega), show ((A.size : Int) + 1) = ((A.size + 1 : Nat) : Int) by simp, hget]
  simp only []
  rw [if_neg (by simp), if_neg (by omega), if_neg (by rw [hsz, hfs]; omega)]
  have t1 : Int.toNat (((A.size + 1 + (numL f.Data.size).length : Nat) : Int) + (f.Data.size : Int)) = A.size + 1 + (numL f.Data.size).length + f.Data.size := by omega
  have t2 : Int.toNat (((A.size + 1 + (numL f.Data.size).length : Nat) : Int) + (f.Data.size : Int) + 4) = A.size + 1 + (numL f.Data.size).length + f.Data.size + 4 := by omega
  rw [t1, t2, Int.toNat_natCast, Int.toNat_natCast, e1, e2, if_pos rfl, e3, hbyte]
  simp only [Prod.mk.injEq, true_and, and_true]
  rw [hfs]; omega

set_option maxRecDepth 100000 in
theorem next_ok {s : ByteArray} {p e : Int} {f : T_api_Frame} (h : nextV s p = (f, e, 0)) : ∃ b : Nat, p = b ∧ 0 ≤ f.Kind ∧ f.Kind ≤ 255 ∧ f.Data.size ≤ 1048576 ∧ e = ((b + (frB f).size : Nat) : Int) ∧ b + (frB f).size ≤ s.size ∧ s.extract b (b + (frB f).size) = frB f := by
  unfold nextV at h
  split at h
  · cases h
  rename_i h0
  split at h
  · cases h
  rename_i h1
  split at h
  · rename_i h2; simp only [Prod.mk.injEq] at h; exact absurd h.2.2 h2
  rename_i h2
  split at h
  · cases h
  rename_i h3
  split at h
  · cases h
  rename_i h4
  split at h
  case isFalse => cases h
  rename_i h5
  obtain ⟨u, nx, hg⟩ : ∃ u nx, getV s (p + 1) = (u, nx, 0) := ⟨(getV s (p + 1)).1, (getV s (p + 1)).2.1, by
    have : (getV s (p + 1)).2.2 = 0 := by simpa using h2
    rw [← this]⟩
  obtain ⟨a, ha, hb, hu0, hu1, rfl, htk⟩ := getV_ok hg
  rw [hg] at h h3 h4 h5
  simp only [] at h h3 h4 h5
  obtain ⟨b, rfl⟩ := Int.eq_ofNat_of_zero_le (show 0 ≤ p by omega)
  have hab : a = b + 1 := by omega
  subst hab
  obtain ⟨v, rfl⟩ := Int.eq_ofNat_of_zero_le hu0
  obtain ⟨n, hn⟩ : ∃ n, b + 1 + (numL (v : Int)).length = n := ⟨_, rfl⟩
  rw [hn] at h h4 h5 hb
  have e1 : Int.toNat ((n : Int) + (v : Int)) = n + v := by omega
  have e2 : Int.toNat ((n : Int) + (v : Int) + 4) = n + v + 4 := by omega
  rw [e1, e2, Int.toNat_natCast] at h5
  rw [e1, Int.toNat_natCast, Int.toNat_natCast] at h
  simp only [Prod.mk.injEq, and_true] at h
  obtain ⟨rfl, rfl⟩ := h
  have hr := sB_rng (s := s) (a := b) (by omega)
  have hds : (s.extract n (n + v)).size = v := by rw [ByteArray.size_extract]; omega
  have hh : hdrB ((sB s).getD b 0) (s.extract n (n + v)) = s.extract b (n + v) := by
    apply sB_inj
    unfold hdrB
    rw [sB_app, sB_app, sB_num (l := [(sB s).getD b 0]) (by intro x hx; simp only [List.mem_singleton] at hx; subst hx; exact hr), hds, sB_num (numL_mem hu0 hu1), sB_cut, sB_cut]
    have d1 : (sB s).drop b = (sB s).getD b 0 :: (sB s).drop (b + 1) := by
      have hl : b < (sB s).length := by rw [sB_len]; omega
      rw [List.drop_eq_getElem_cons hl, List.getD_eq_getElem?_getD, List.getElem?_eq_getElem hl]; rfl
    have d2 : (sB s).drop (b + 1) = numL v ++ (sB s).drop n := by
      have := List.take_append_drop (numL (v : Int)).length ((sB s).drop (b + 1))
      rw [htk, List.drop_drop, hn] at this
      exact this.symm
    have d3 : (sB s).drop b = ([(sB s).getD b 0] ++ numL v) ++ (sB s).drop n := by rw [d1, d2]; rfl
    have l3 : ([(sB s).getD b 0] ++ numL (v : Int)).length = n - b := by rw [List.length_append]; simp; omega
    rw [List.drop_take, List.drop_take, d3, List.take_append, List.take_of_length_le (l := [(sB s).getD b 0] ++ numL (v : Int)) (by rw [l3]; omega), l3]
    rw [show n + v - b - (n - b) = n + v - n by omega]
  have hf : frB ⟨(sB s).getD b 0, s.extract n (n + v)⟩ = s.extract b (n + v + 4) := by
    unfold frB
    simp only []
    rw [hh, h5]
    apply sB_inj
    rw [sB_app, sB_cut, sB_cut, sB_cut]
    apply List.ext_getElem?
    intro q
    have l1 : (((sB s).take (n + v)).drop b).length = n + v - b := by rw [List.length_drop, List.length_take, sB_len]; omega
    rcases Nat.lt_or_ge q (n + v - b) with hq | hq
    · rw [List.getElem?_append_left (by rw [l1]; exact hq)]
      simp only [List.getElem?_drop, List.getElem?_take]
      rw [if_pos (by omega), if_pos (by omega)]
    · rw [List.getElem?_append_right (by rw [l1]; exact hq), l1]
      simp only [List.getElem?_drop, List.getElem?_take]
      by_cases hq2 : b + q < n + v + 4
      · rw [if_pos (by omega), if_pos hq2]; congr 1; omega
      · rw [if_neg (by omega), if_neg hq2]
  have hfs : (frB ⟨(sB s).getD b 0, s.extract n (n + v)⟩).size = n + v + 4 - b := by rw [hf, ByteArray.size_extract]; omega
  refine ⟨b, rfl, hr.1, hr.2, by rw [hds]; omega, ?_, ?_, ?_⟩
  · rw [hfs]; omega
  · rw [hfs]; omega
  · rw [hfs, hf]; congr 1; omega
end Go.Ab
