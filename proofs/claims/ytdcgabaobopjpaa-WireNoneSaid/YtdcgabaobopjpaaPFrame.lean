/- Frames, plainly. -/
import Derived.Test.YtdcgabaobopjpaaQVint4
import Derived.Test.YtdcgabaobopjpaaQCrc4
import Derived.Test.YtdcgabaobopjpaaAbPlain
namespace Go.Ab
set_option linter.unusedVariables false

theorem getV_ok {s : ByteArray} {p u nx : Int} (h : getV s p = (u, nx, 0)) : ∃ a : Nat, p = a ∧ a + (numL u).length ≤ s.size ∧ 0 ≤ u ∧ u ≤ 18446744073709551615 ∧ nx = ((a + (numL u).length : Nat) : Int) ∧ ((sB s).drop a).take (numL u).length = numL u := by
  unfold getV at h
  split at h
  · cases h
  · rename_i hp
    obtain ⟨a, rfl⟩ := Int.eq_ofNat_of_zero_le (show 0 ≤ p by omega)
    obtain ⟨v, h0, h1, h2, h3, h4, _⟩ := getS_bwd _ (fun x hx => sB_mem (List.mem_of_mem_drop hx)) _ 10 0 0 u nx rfl (by decide) (by decide) h
    have hv : u = v := by simpa using h2
    subst hv
    refine ⟨a, rfl, ?_, h0, h1, ?_, ?_⟩
    · have := congrArg List.length h4
      simp [sB_len] at this
      have := (numL_len u).2
      omega
    · rw [h3]; simp
    · simpa using h4
theorem getV_fwd (s : ByteArray) (a : Nat) (u : Int) (rest : List Int) (h0 : 0 ≤ u) (h1 : u ≤ 18446744073709551615) (h : (sB s).drop a = numL u ++ rest) : getV s a = (u, ((a + (numL u).length : Nat) : Int), 0) := by
  have hlen := congrArg List.length h
  simp [sB_len] at hlen
  have := (numL_len u).2
  unfold getV
  rw [if_neg (by omega)]
  have := getS_fwd ((sB s).drop a) (a : Int) 10 0 u 0 rest rfl (by decide) h0 h1 (by simp; omega) (.inr rfl) (by simpa using h)
  rw [Int.toNat_natCast, this]
  simp

def noF : T_api_Frame := ⟨0, ⟨#[]⟩⟩
def nextV (s : ByteArray) (p : Int) : T_api_Frame × Int × Int :=
  if p < 0 ∨ (s.size : Int) < p then (noF, 0, 1) else if p = s.size then (noF, 0, 2)
  else if (getV s (p + 1)).2.2 ≠ 0 then (noF, 0, (getV s (p + 1)).2.2) else if 1048576 < (getV s (p + 1)).1 then (noF, 0, 5)
  else if (s.size : Int) - (getV s (p + 1)).2.1 < (getV s (p + 1)).1 + 4 then (noF, 0, 2)
  else if strOfNums (leN (moreN 0 (s.extract p.toNat ((getV s (p + 1)).2.1 + (getV s (p + 1)).1).toNat))) = s.extract ((getV s (p + 1)).2.1 + (getV s (p + 1)).1).toNat ((getV s (p + 1)).2.1 + (getV s (p + 1)).1 + 4).toNat
    then (⟨(sB s).getD p.toNat 0, s.extract (getV s (p + 1)).2.1.toNat ((getV s (p + 1)).2.1 + (getV s (p + 1)).1).toNat⟩, (getV s (p + 1)).2.1 + (getV s (p + 1)).1 + 4, 0) else (noF, 0, 4)

theorem ext_ext (s : ByteArray) (i j k l : Nat) (h : l ≤ j - i) : (s.extract i j).extract k l = s.extract (i + k) (i + l) := by
  apply sB_inj
  rw [sB_cut, sB_cut, sB_cut]
  apply List.ext_getElem?
  intro q
  simp only [List.getElem?_drop, List.getElem?_take]
  by_cases h1 : k + q < l
  · rw [if_pos h1, if_pos (by omega), if_pos (by omega)]; congr 1; omega
  · rw [if_neg h1, if_neg (by omega)]
theorem sAt_lt {s : ByteArray} {a : Nat} (h : a < s.size) : sAt s (a : Int) = some ((sB s).getD a 0) := by
  rw [sAt_eq, lAtn, List.getD_eq_getElem?_getD]
  have : a < (sB s).length := by rw [sB_len]; exact h
  rw [List.getElem?_eq_getElem this]; rfl
theorem sB_rng {s : ByteArray} {a : Nat} (h : a < s.size) : 0 ≤ (sB s).getD a 0 ∧ (sB s).getD a 0 ≤ 255 := by
  have : a < (sB s).length := by rw [sB_len]; exact h
  rw [List.getD_eq_getElem?_getD, List.getElem?_eq_getElem this]
  exact sB_mem (List.getElem_mem this)

theorem F_next (s : ByteArray) (p : Int) (hs : s.size ≤ 100000) : F_frame_Next s p = some (nextV s p) := by
  unfold F_frame_Next
  by_cases h0 : p < 0
  · rw [dct h0, cond_true]; unfold F_frame_Next_J1 nextV; rw [cond_true, if_pos (.inl h0)]; rfl
  rw [dcf h0, cond_false]
  by_cases h1 : (s.size : Int) < p
  · rw [dct h1]; unfold F_frame_Next_J1 nextV; rw [cond_true, if_pos (.inr h1)]; rfl
  rw [dcf h1]
  unfold F_frame_Next_J1 nextV
  rw [cond_false, if_neg (by omega)]
  by_cases h2 : p = s.size
  · rw [beqt h2, cond_true, if_pos h2]; rfl
  rw [beqf h2, cond_false, if_neg h2, w64i (by omega) (by omega), F_get _ _ (by omega)]
  show (some (getV s (p + 1))).bind _ = _
  simp only [Option.bind_some]
  by_cases h3 : (getV s (p + 1)).2.2 = 0
  · rw [show ((getV s (p + 1)).2.2 != 0) = false by simp [h3], cond_false, if_neg (by simpa using h3)]
    obtain ⟨u, nx, hg⟩ : ∃ u nx, getV s (p + 1) = (u, nx, 0) := ⟨(getV s (p + 1)).1, (getV s (p + 1)).2.1, by rw [← h3]⟩
    obtain ⟨a, ha, hb, hu0, hu1, rfl, htk⟩ := getV_ok hg
    rw [hg]
    simp only []
    obtain ⟨b, rfl⟩ := Int.eq_ofNat_of_zero_le (show 0 ≤ p by omega)
    have hab : a = b + 1 := by omega
    subst hab
    by_cases h4 : 1048576 < u
    · rw [dct h4, cond_true, if_pos h4]; rfl
    rw [dcf h4, cond_false, if_neg h4]
    obtain ⟨v, rfl⟩ := Int.eq_ofNat_of_zero_le hu0
    obtain ⟨n, hn⟩ : ∃ n, b + 1 + (numL (v : Int)).length = n := ⟨_, rfl⟩
    rw [hn] at hb ⊢
    rw [w64i (n := (s.size : Int) - (n : Int)) (by omega) (by omega), w64i (n := (v : Int)) (by omega) (by omega), w64i (n := (v : Int) + 4) (by omega) (by omega)]
    by_cases h5 : (s.size : Int) - (n : Int) < (v : Int) + 4
    · rw [dct h5, cond_true, if_pos h5]; rfl
    rw [dcf h5, cond_false, if_neg h5]
    rw [w64i (n := (n : Int) + (v : Int)) (by omega) (by omega), w64i (n := (n : Int) + (v : Int) + 4) (by omega) (by omega)]
    have e1 : Int.toNat ((n : Int) + (v : Int)) = n + v := by omega
    have e2 : Int.toNat ((n : Int) + (v : Int) + 4) = n + v + 4 := by omega
    rw [grd_t (by omega), e1, e2, Int.toNat_natCast, Int.toNat_natCast]
    have hsz : (s.extract b (n + v + 4)).size = n + v + 4 - b := by rw [ByteArray.size_extract]; omega
    have hnb : b < n := by omega
    rw [F_open _ (by rw [hsz]; omega)]
    simp only [Option.bind_some]
    have eo : openV (s.extract b (n + v + 4)) = if strOfNums (leN (moreN 0 (s.extract b (n + v)))) = s.extract (n + v) (n + v + 4) then (s.extract b (n + v), 0) else (⟨#[]⟩, 4) := by
      unfold openV
      rw [hsz, if_neg (by omega), ext_ext _ _ _ _ _ (by omega), ext_ext _ _ _ _ _ (by omega)]
      rw [show b + 0 = b by omega, show b + (n + v + 4 - b - 4) = n + v by omega, show b + (n + v + 4 - b) = n + v + 4 by omega]
    rw [eo]
    by_cases h6 : strOfNums (leN (moreN 0 (s.extract b (n + v)))) = s.extract (n + v) (n + v + 4)
    · rw [if_pos h6, if_pos h6]
      have hb' := sB_rng (s := s) (a := b) (by omega)
      simp only [bne_self_eq_false, cond_false]
      rw [sAt_lt (by omega)]
      simp only [Option.bind_some]
      rw [grd_t (by omega), w64i (by omega) (by omega)]
    · rw [if_neg h6, if_neg h6]; rfl
  · rw [show ((getV s (p + 1)).2.2 != 0) = true by simpa using h3, cond_true, if_pos h3]; rfl

theorem F_nextR (s : ByteArray) (p : Int) (hs : s.size ≤ 100000) : F_retraceref04_Next s p = some ⟨(nextV s p).1, (nextV s p).2.1, (nextV s p).2.2⟩ := by
  unfold F_retraceref04_Next
  by_cases h0 : p < 0
  · rw [dct h0, cond_true]; unfold F_retraceref04_Next_J1 nextV; rw [cond_true, if_pos (.inl h0)]; rfl
  rw [dcf h0, cond_false]
  by_cases h1 : (s.size : Int) < p
  · rw [dct h1]; unfold F_retraceref04_Next_J1 nextV; rw [cond_true, if_pos (.inr h1)]; rfl
  rw [dcf h1]
  unfold F_retraceref04_Next_J1 nextV
  rw [cond_false, if_neg (by omega)]
  by_cases h2 : p = s.size
  · rw [beqt h2, cond_true, if_pos h2]; rfl
  rw [beqf h2, cond_false, if_neg h2, w64i (by omega) (by omega), F_getR _ _ (by omega)]
  simp only [Option.bind_some, gotOf]
  by_cases h3 : (getV s (p + 1)).2.2 = 0
  · rw [show ((getV s (p + 1)).2.2 != 0) = false by simp [h3], cond_false, if_neg (by simpa using h3)]
    obtain ⟨u, nx, hg⟩ : ∃ u nx, getV s (p + 1) = (u, nx, 0) := ⟨(getV s (p + 1)).1, (getV s (p + 1)).2.1, by rw [← h3]⟩
    obtain ⟨a, ha, hb, hu0, hu1, rfl, htk⟩ := getV_ok hg
    rw [hg]
    simp only []
    obtain ⟨b, rfl⟩ := Int.eq_ofNat_of_zero_le (show 0 ≤ p by omega)
    have hab : a = b + 1 := by omega
    subst hab
    by_cases h4 : 1048576 < u
    · rw [dct h4, cond_true, if_pos h4]; rfl
    rw [dcf h4, cond_false, if_neg h4]
    obtain ⟨v, rfl⟩ := Int.eq_ofNat_of_zero_le hu0
    obtain ⟨n, hn⟩ : ∃ n, b + 1 + (numL (v : Int)).length = n := ⟨_, rfl⟩
    rw [hn] at hb ⊢
    rw [grd_t (by omega), w64i (n := (v : Int)) (by omega) (by omega), w64i (n := (v : Int) + 4) (by omega) (by omega)]
    have hr : (s.extract (Int.toNat (n : Int)) (Int.toNat (s.size : Int))).size = s.size - n := by rw [ByteArray.size_extract]; simp
    rw [hr]
    by_cases h5 : (s.size : Int) - (n : Int) < (v : Int) + 4
    · rw [dct (by omega), cond_true, if_pos h5]; rfl
    rw [dcf (by omega), cond_false, if_neg h5]
    rw [w64i (n := (n : Int) + (v : Int)) (by omega) (by omega), w64i (n := (n : Int) + (v : Int) + 4) (by omega) (by omega)]
    have e1 : Int.toNat ((n : Int) + (v : Int)) = n + v := by omega
    have e2 : Int.toNat ((n : Int) + (v : Int) + 4) = n + v + 4 := by omega
    have e3 : Int.toNat ((v : Int) + 4) = v + 4 := by omega
    have hnb : b < n := by omega
    rw [grd_t (by omega), e1, e2, Int.toNat_natCast, Int.toNat_natCast, F_sumR _ (by rw [ByteArray.size_extract]; omega)]
    simp only [Option.bind_some]
    rw [F_bytesR _ (moreN_lt (by decide) _)]
    simp only [Option.bind_some]
    rw [grd_t (by omega), eqS, e3, Int.toNat_natCast, Int.toNat_natCast, ext_ext _ _ _ _ _ (by omega)]
    by_cases h6 : strOfNums (leN (moreN 0 (s.extract b (n + v)))) = s.extract (n + v) (n + v + 4)
    · rw [dct (by rw [h6]; congr 1), if_pos h6]
      have hb' := sB_rng (s := s) (a := b) (by omega)
      simp only [Bool.not_true, cond_false]
      rw [sAt_lt (by omega)]
      simp only [Option.bind_some]
      rw [grd_t (by omega), w64i (by omega) (by omega), Int.toNat_zero, ext_ext _ _ _ _ _ (by omega)]
      rfl
    · rw [dcf (by rw [show n + (v + 4) = n + v + 4 by omega]; exact h6), if_neg h6]; rfl
  · rw [show ((getV s (p + 1)).2.2 != 0) = true by simpa using h3, cond_true, if_pos h3]; rfl
end Go.Ab
