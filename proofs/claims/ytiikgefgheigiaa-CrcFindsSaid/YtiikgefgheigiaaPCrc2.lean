import Derived.Test.YtiikgefgheigiaaPCrc
namespace Go.Ab
set_option linter.unusedVariables false

theorem leN_size (c : Nat) : (strOfNums (leN c)).size = 4 := by rw [num_size]; rfl
theorem F_seal (s : ByteArray) (hs : s.size ≤ 1000000) : F_crc_Seal s = some (s ++ strOfNums (leN (moreN 0 s))) := by
  unfold F_crc_Seal
  rw [F_sum s hs]
  simp only [Option.bind_some]
  rw [F_bytes _ (moreN_lt (by decide) s)]
  simp only [Option.bind_some]
  unfold grd
  rw [if_pos (by rw [leN_size]; omega)]

def openV (s : ByteArray) : ByteArray × Int :=
  if s.size < 4 then (⟨#[]⟩, 2) else if strOfNums (leN (moreN 0 (s.extract 0 (s.size - 4)))) = s.extract (s.size - 4) s.size then (s.extract 0 (s.size - 4), 0) else (⟨#[]⟩, 4)

theorem F_open (s : ByteArray) (hs : s.size ≤ 1000000) : F_crc_Open s = some (openV s) := by
  unfold F_crc_Open openV
  have ew : w64 ((s.size : Int) - 4) = (s.size : Int) - 4 := xr_w64 (by omega) (by omega)
  rw [ew]
  by_cases h : s.size < 4
  · rw [decide_eq_true (show (s.size : Int) - 4 < 0 by omega), cond_true, if_pos h]
  · have e4 : Int.toNat ((s.size : Int) - 4) = s.size - 4 := by omega
    have hx : (s.extract 0 (s.size - 4)).size ≤ 1000000 := by rw [ByteArray.size_extract]; omega
    rw [decide_eq_false (show ¬ (s.size : Int) - 4 < 0 by omega), cond_false, if_neg h, e4]
    unfold grd
    rw [if_pos (by omega), Int.toNat_zero, F_sum _ hx]
    simp only [Option.bind_some]
    rw [F_bytes _ (moreN_lt (by decide) _)]
    simp only [Option.bind_some]
    rw [if_pos (by omega), eqS, Int.toNat_natCast]
    by_cases hq : strOfNums (leN (moreN 0 (s.extract 0 (s.size - 4)))) = s.extract (s.size - 4) s.size
    · rw [decide_eq_true hq, if_pos hq, if_pos (by omega)]; rfl
    · rw [decide_eq_false hq, if_neg hq]; rfl

theorem live_open : openV ((⟨#[97, 98]⟩ : ByteArray) ++ strOfNums (leN (moreN 0 ⟨#[97, 98]⟩))) = (⟨#[97, 98]⟩, 0) := by decide +kernel
theorem live02 : F_retracelaw02_live = some true := by
  unfold F_retracelaw02_live
  rw [F_seal _ (by decide)]
  simp only [Option.bind_some]
  rw [F_open _ (by rw [ByteArray.size_append, leN_size]; decide), live_open]
  simp only [Option.bind_some]
  rw [F_open _ (by decide), F_sum _ (by decide)]
  simp only [Option.bind_some]
  have h1 : (openV ⟨#[97, 98, 99, 100]⟩).2 = 4 := by decide +kernel
  have h2 : (((moreN 0 ⟨#[49, 50, 51, 52, 53, 54, 55, 56, 57]⟩ : Nat) : Int) == 3421780262) = true := by decide +kernel
  rw [h1, h2, eqS]
  simp [F_retracelaw02_live_J1]

theorem law_tells (c : Int) (s : ByteArray) (h0 : 0 ≤ c) (h1 : c ≤ 4294967295) : F_retracelaw02_CrcTells c s = some true := by
  unfold F_retracelaw02_CrcTells
  by_cases h : 500 < (s.size : Int)
  · rw [decide_eq_true h, cond_true, live02]; rfl
  · obtain ⟨c, rfl⟩ := Int.eq_ofNat_of_zero_le h0
    have hs : s.size ≤ 1000000 := by omega
    rw [decide_eq_false h, cond_false, F_sum s hs, F_sumR s hs, F_more c (by omega) s hs, F_moreR c (by omega) s hs, F_bytes c (by omega), F_bytesR c (by omega), F_seal s hs]
    simp only [Option.bind_some, beq_self_eq_true, cond_true]
    rw [F_bytesR _ (moreN_lt (by decide) s)]
    simp only [Option.bind_some]
    unfold grd
    rw [if_pos (by rw [leN_size]; omega), live02]
    simp only [beq_self_eq_true, cond_true]
    rfl

theorem crcL_app : ∀ (a b : List Nat) (c : Nat), crcL c (a ++ b) = crcL (crcL c a) b
  | [], b, c => rfl
  | x :: a, b, c => crcL_app a b _
theorem xor_xor (a b : Nat) : a ^^^ b ^^^ b = a := by rw [Nat.xor_assoc, Nat.xor_self, Nat.xor_zero]

theorem law_goes (s t : ByteArray) : F_retracelaw02_CrcGoes s t = some true := by
  have live : F_retracelaw02_CrcGoes_J1 s t true = some true := by
    unfold F_retracelaw02_CrcGoes_J1
    rw [cond_true, live02]; rfl
  unfold F_retracelaw02_CrcGoes
  by_cases h : 300 < (s.size : Int)
  · rw [decide_eq_true h, cond_true, live]
  · rw [decide_eq_false h, cond_false]
    by_cases ht : 300 < (t.size : Int)
    · rw [decide_eq_true ht, live]
    · rw [decide_eq_false ht]
      have hs : s.size ≤ 1000000 := by omega
      have ht' : t.size ≤ 1000000 := by omega
      have hl : moreN 0 s < 4294967296 := moreN_lt (by decide) s
      have hm0 : F_crc_More 0 s = some ((moreN 0 s : Nat) : Int) := F_more 0 (by decide) s hs
      have e1 : moreN (moreN 0 s) t = moreN 0 (s ++ t) := by
        unfold moreN
        rw [xor_xor, nB_app, crcL_app]
      have e2 : moreN (moreN 0 s) ⟨#[]⟩ = moreN 0 s := by
        unfold moreN
        show (crcL _ (nB s) ^^^ 4294967295) ^^^ 4294967295 ^^^ 4294967295 = _
        rw [xor_xor]
      unfold F_retracelaw02_CrcGoes_J1
      rw [cond_false, F_sum s hs, hm0]
      simp only [Option.bind_some]
      rw [F_more _ hl t ht', F_sum _ (by rw [ByteArray.size_append]; omega), F_more _ hl ⟨#[]⟩ (by decide), e1, e2, live02]
      unfold grd
      simp only [Option.bind_some]
      rw [if_pos (by omega)]
      simp only [beq_self_eq_true, cond_true]
      rfl

theorem law_opens (s : ByteArray) : F_retracelaw02_CrcOpens s = some true := by
  unfold F_retracelaw02_CrcOpens
  by_cases h : 300 < (s.size : Int)
  · rw [decide_eq_true h, cond_true, live02]; rfl
  · have hs : s.size ≤ 1000000 := by omega
    have ew : w64 ((s.size : Int) - 4) = (s.size : Int) - 4 := xr_w64 (by omega) (by omega)
    rw [decide_eq_false h, cond_false, F_open s hs, ew]
    simp only [Option.bind_some]
    by_cases h4 : s.size < 4
    · rw [decide_eq_true (show (s.size : Int) - 4 < 0 by omega), cond_true]
      unfold openV
      rw [if_pos h4, live02]
      simp [F_retracelaw02_CrcOpens_J1]
    · have e4 : Int.toNat ((s.size : Int) - 4) = s.size - 4 := by omega
      have hx : (s.extract 0 (s.size - 4)).size ≤ 1000000 := by rw [ByteArray.size_extract]; omega
      rw [decide_eq_false (show ¬ (s.size : Int) - 4 < 0 by omega), cond_false, e4, Int.toNat_zero, Int.toNat_natCast]
      unfold grd
      rw [if_pos (by omega), F_sumR _ hx]
      simp only [Option.bind_some]
      rw [F_bytesR _ (moreN_lt (by decide) _)]
      simp only [Option.bind_some]
      rw [if_pos (by omega), eqS, live02]
      unfold openV
      rw [if_neg h4]
      by_cases hq : strOfNums (leN (moreN 0 (s.extract 0 (s.size - 4)))) = s.extract (s.size - 4) s.size
      · rw [decide_eq_true hq, if_pos hq, if_pos (by omega)]
        simp [F_retracelaw02_CrcOpens_J3]
      · rw [decide_eq_false hq, if_neg hq]
        simp [F_retracelaw02_CrcOpens_J2]
end Go.Ab
