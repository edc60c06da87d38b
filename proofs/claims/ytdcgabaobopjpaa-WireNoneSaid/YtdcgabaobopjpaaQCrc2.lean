import Derived.Test.YtdcgabaobopjpaaQCrc
namespace Go.Ab
set_option linter.unusedVariables false

theorem leN_size (c : Nat) : (strOfNums (leN c)).size = 4 := by rw [num_size]; rfl
theorem F_seal (s : ByteArray) (hs : s.size ≤ 1000000) : F_crc_Seal s = some (s ++ strOfNums (leN (moreN 0 s))) := by
  unfold F_crc_Seal
  rw [F_sum s hs]
  simp only [Option.bind_some]
  rw [F_bytes _ (moreN_lt (by decide) s)]
  simp only [Option.bind_some]
  unfold grd
  rw [if_pos (by rw [leN_size]; omega)]

def openV (s : ByteArray) : ByteArray × Int :=
  if s.size < 4 then (⟨#[]⟩, 2) else if strOfNums (leN (moreN 0 (s.extract 0 (s.size - 4)))) = s.extract (s.size - 4) s.size then (s.extract 0 (s.size - 4), 0) else (⟨#[]⟩, 4)

theorem F_open (s : ByteArray) (hs : s.size ≤ 1000000) : F_crc_Open s = some (openV s) := by
  unfold F_crc_Open openV
  have ew : w64 ((s.size : Int) - 4) = (s.size : Int) - 4 := xr_w64 (by omega) (by omega)
  rw [ew]
  by_cases h : s.size < 4
  · rw [decide_eq_true (show (s.size : Int) - 4 < 0 by omega), cond_true, if_pos h]
  · have e4 : Int.toNat ((s.size : Int) - 4) = s.size - 4 := by omega
    have hx : (s.extract 0 (s.size - 4)).size ≤ 1000000 := by rw [ByteArray.size_extract]; omega
    rw [decide_eq_false (show ¬ (s.size : Int) - 4 < 0 by omega), cond_false, if_neg h, e4]
    unfold grd
    rw [if_pos (by omega), Int.toNat_zero, F_sum _ hx]
    simp only [Option.bind_some]
    rw [F_bytes _ (moreN_lt (by decide) _)]
    simp only [Option.bind_some]
    rw [if_pos (by omega), eqS, Int.toNat_natCast]
    by_cases hq : strOfNums (leN (moreN 0 (s.extract 0 (s.size - 4)))) = s.extract (s.size - 4) s.size
    · rw [decide_eq_true hq, if_pos hq, if_pos (by omega)]; rfl
    · rw [decide_eq_false hq, if_neg hq]; rfl

theorem live_open : openV ((⟨#[97, 98]⟩ : ByteArray) ++ strOfNums (leN (moreN 0 ⟨#[97, 98]⟩))) = (⟨#[97, 98]⟩, 0) := by decide +kernel
theorem crcL_app : ∀ (a b : List Nat) (c : Nat), crcL c (a ++ b) = crcL (crcL c a) b
  | [], b, c => rfl
  | x :: a, b, c => crcL_app a b _
theorem xor_xor (a b : Nat) : a ^^^ b ^^^ b = a := by rw [Nat.xor_assoc, Nat.xor_self, Nat.xor_zero]

end Go.Ab
