/- FrameBack, plainly. -/
import Derived.Test.YtdcgabaobopjpaaPFrame3
namespace Go.Ab
set_option linter.unusedVariables false
theorem toL_eq (a b : ByteArray) : (a.toList == b.toList) = decide (a = b) := eqS a b
theorem ext_all (s : ByteArray) : s.extract 0 s.size = s := by
  apply sB_inj; rw [sB_cut, List.drop_zero, List.take_of_length_le (by rw [sB_len]; omega)]
theorem back_J3 (B : ByteArray) (hB : B.size ≤ 300) : F_retracelaw04_FrameBack_J3 B false = some true := by
  unfold F_retracelaw04_FrameBack_J3
  rw [cond_false, F_next B 0 (by omega)]
  simp only [Option.bind_some]
  obtain ⟨f, e, c, hx⟩ : ∃ f e c, nextV B 0 = (f, e, c) := ⟨_, _, _, rfl⟩
  rw [hx]
  simp only []
  by_cases hc : c = 0
  · subst hc
    obtain ⟨b, hb, k0, k1, ks, rfl, hle, hex⟩ := next_ok hx
    have : b = 0 := by omega
    subst this
    rw [Nat.zero_add] at hle hex ⊢
    have hfs : f.Data.size ≤ 300 := by
      have : (frB f).size = 1 + (numL f.Data.size).length + f.Data.size + 4 := by unfold frB; rw [size_app, hdr_size, leN_size]
      omega
    rw [F_putF f (by omega)]
    simp only [Option.bind_some, bne_self_eq_false, cond_false]
    rw [dct (by omega), cond_true, dct (by omega), cond_true, grd_t (by omega), Int.toNat_natCast, Int.toNat_zero, hex]
    unfold putV
    rw [if_neg (by omega)]
    simp [ev_retracelaw04_live, F_retracelaw04_FrameBack_J4]
  · have hd : f.Data.size ≤ 900000 := by
      unfold nextV at hx
      repeat' (split at hx)
      all_goals (simp only [Prod.mk.injEq] at hx; obtain ⟨rfl, _, hcc⟩ := hx)
      all_goals first | (exact Nat.zero_le _) | exact absurd hcc.symm hc | skip
    rw [F_putF f hd]
    simp only [Option.bind_some]
    rw [show (c != 0) = true by simpa using hc, cond_true, ev_retracelaw04_live]
    rfl
theorem law_fback (A : ByteArray) (f : T_api_Frame) (B : ByteArray) : F_retracelaw04_FrameBack A f B = some true := by
  have hbig : F_retracelaw04_FrameBack_J1 A f B true = some true := by
    unfold F_retracelaw04_FrameBack_J1; rw [cond_true, ev_retracelaw04_live]; rfl
  unfold F_retracelaw04_FrameBack
  by_cases h0 : 300 < (A.size : Int)
  · rw [dct h0, cond_true, hbig]
  rw [dcf h0, cond_false]
  by_cases h1 : 300 < (f.Data.size : Int)
  · rw [dct h1, cond_true, hbig]
  rw [dcf h1, cond_false]
  by_cases h2 : 300 < (B.size : Int)
  · rw [dct h2, hbig]
  rw [dcf h2]
  unfold F_retracelaw04_FrameBack_J1
  rw [cond_false, F_putF f (by omega)]
  simp only [Option.bind_some]
  unfold putV
  by_cases hk : f.Kind < 0 ∨ 255 < f.Kind
  · rw [if_pos hk]
    simp only [ev_retracelaw04_live, Option.bind_some, F_retracelaw04_FrameBack_J2]
    rcases hk with h | h
    · simp [h]
    · by_cases h' : f.Kind < 0 <;> simp [h, h']
  · rw [if_neg hk]
    simp only [bne_self_eq_false, cond_false]
    have hfs : (frB f).size = 1 + (numL f.Data.size).length + f.Data.size + 4 := by unfold frB; rw [size_app, hdr_size, leN_size]
    have hn := (numL_len (f.Data.size : Int)).1
    rw [grd_t (by omega), grd_t (by rw [size_app]; omega), F_next _ _ (by rw [size_app, size_app]; omega), next_put A B f (by omega) (by omega) (by omega)]
    simp only [Option.bind_some]
    rw [w64i (by omega) (by omega)]
    have : ((((A.size + (frB f).size : Nat) : Int)) != (A.size : Int) + ((frB f).size : Int)) = false := by simp
    rw [this, show ((0 : Int) != 0) = false from rfl, back_J3 B (by omega)]
    simp
end Go.Ab
