/- Readers, plainly. -/
import Derived.Test.YtdcgabaobopjpaaBXWire
namespace Go.Ab
set_option linter.unusedVariables false

theorem sAt_lt {s : ByteArray} {a : Nat} (h : a < s.size) : sAt s (a : Int) = some ((sB s).getD a 0) := by
  rw [sAt_eq, lAt_nat, List.getD_eq_getElem?_getD]
  have : a < (sB s).length := by rw [sB_len]; exact h
  rw [List.getElem?_eq_getElem this]; rfl
abbrev RD := T_wire_Reader
def restB (s : ByteArray) (n : Int) : ByteArray := s.extract n.toNat s.size
def rNum (r : RD) : Int × RD := if r.e ≠ 0 then (0, r) else if (getV r.s 0).2.2 ≠ 0 then (0, ⟨r.s, (getV r.s 0).2.2⟩) else ((getV r.s 0).1, ⟨restB r.s (getV r.s 0).2.1, 0⟩)
def rInt (r : RD) : Int × RD := (zagN (rNum r).1, (rNum r).2)
def rUpto (m : Int) (r : RD) : Int × RD := if r.e ≠ 0 then (0, r) else if (getV r.s 0).2.2 ≠ 0 then (0, ⟨r.s, (getV r.s 0).2.2⟩) else if m < 0 ∨ m < (getV r.s 0).1 then (0, ⟨r.s, 6⟩) else ((getV r.s 0).1, ⟨restB r.s (getV r.s 0).2.1, 0⟩)
def rRaw (n : Int) (r : RD) : ByteArray × RD := if r.e ≠ 0 then (⟨#[]⟩, r) else if n < 0 then (⟨#[]⟩, ⟨r.s, 1⟩) else if (r.s.size : Int) < n then (⟨#[]⟩, ⟨r.s, 2⟩) else (r.s.extract 0 n.toNat, ⟨restB r.s n, 0⟩)
def rText (m : Int) (r : RD) : ByteArray × RD := rRaw (rUpto m r).1 (rUpto m r).2
def rBool (r : RD) : Bool × RD := if r.e ≠ 0 then (false, r) else if r.s.size = 0 then (false, ⟨r.s, 2⟩) else if 1 < (sB r.s).getD 0 0 then (false, ⟨r.s, 3⟩) else ((sB r.s).getD 0 0 == 1, ⟨restB r.s 1, 0⟩)
def rFail (e : Int) (r : RD) : RD := if r.e ≠ 0 then r else ⟨r.s, e⟩
def rMany : Nat → RD → List Int × RD
  | 0, r => ([], r)
  | n + 1, r => if r.e ≠ 0 then ([], r) else ((rInt r).1 :: (rMany n (rInt r).2).1, (rMany n (rInt r).2).2)
def rInts (m : Int) (r : RD) : List Int × RD := (if (rMany (rUpto m r).1.toNat (rUpto m r).2).2.e ≠ 0 then [] else (rMany (rUpto m r).1.toNat (rUpto m r).2).1, (rMany (rUpto m r).1.toNat (rUpto m r).2).2)

theorem getV_err0 (s : ByteArray) (p : Int) (h : (getV s p).2.2 ≠ 0) : (getV s p).1 = 0 := by
  have key : ∀ (l : List Int) (a : Int) (d k : Nat) (u : Int), (getS l a d k u).2.2 ≠ 0 → (getS l a d k u).1 = 0 := by
    intro l a d
    induction d with
    | zero => intro k u _; rfl
    | succ d ih =>
      intro k u h
      unfold getS at h ⊢
      split
      · rfl
      · rename_i c hc
        rw [hc] at h
        simp only at h
        split
        · rfl
        · rename_i h1
          rw [if_neg h1] at h
          split
          · rename_i h2; rw [if_pos h2] at h; exact absurd rfl h
          · rename_i h2; rw [if_neg h2] at h; exact ih _ _ h
  unfold getV at h ⊢
  split
  · rfl
  · rename_i hp; rw [if_neg hp] at h; exact key _ _ _ _ _ h
theorem getV_0 {s : ByteArray} (h : (getV s 0).2.2 = 0) : 0 < (getV s 0).2.1 ∧ (getV s 0).2.1 ≤ (s.size : Int) ∧ 0 ≤ (getV s 0).1 ∧ (getV s 0).1 ≤ 18446744073709551615 := by
  obtain ⟨a, ha, hb, hu0, hu1, hnx, _⟩ := getV_ok (s := s) (p := 0) (u := (getV s 0).1) (nx := (getV s 0).2.1) (Prod.ext rfl (Prod.ext rfl h))
  have := (numL_len (getV s 0).1).2
  omega
theorem zag0 : zagN 0 = 0 := by decide
theorem F_get0 (s : ByteArray) (hs : s.size ≤ 281474976710656) : F_vint_Get s 0 = some (getV s 0) := F_get s 0 hs
theorem rest_size (s : ByteArray) (n : Int) (h0 : 0 ≤ n) (h1 : n ≤ (s.size : Int)) : ((restB s n).size : Int) = s.size - n := by
  unfold restB; rw [ByteArray.size_extract]; omega

theorem F_rNum (r : RD) (hs : r.s.size ≤ 281474976710656) : F_wire_Reader_Num r = some (rNum r) := by
  unfold F_wire_Reader_Num F_wire_Reader_step_v5 rNum
  by_cases h : r.e = 0
  · rw [show (r.e != 0) = false by simp [h], cond_false, if_neg (by simpa using h)]
    unfold F_wire_Reader_Num_1
    rw [F_get0 _ hs]
    simp only [Option.bind_some]
    by_cases hc : (getV r.s 0).2.2 = 0
    · rw [show ((getV r.s 0).2.2 != 0) = false by simp [hc], cond_false, if_neg (by simpa using hc)]
      have := getV_0 hc
      rw [grd_t (by omega)]
      simp only [Option.bind_some, Int.toNat_natCast, h]; rfl
    · rw [show ((getV r.s 0).2.2 != 0) = true by simpa using hc, cond_true, if_pos hc, getV_err0 _ _ hc]; rfl
  · rw [show (r.e != 0) = true by simpa using h, cond_true, if_pos h]; rfl
theorem rNum_rng (r : RD) : 0 ≤ (rNum r).1 ∧ (rNum r).1 ≤ 18446744073709551615 := by
  have := getV_range r.s 0
  unfold rNum; split
  · exact ⟨Int.le_refl _, by show (0 : Int) ≤ _; decide⟩
  · split
    · exact ⟨Int.le_refl _, by show (0 : Int) ≤ _; decide⟩
    · exact this
theorem rNum_size (r : RD) : (rNum r).2.s.size ≤ r.s.size ∧ (r.e = 0 → (rNum r).2.e = 0 → (rNum r).2.s.size < r.s.size) := by
  unfold rNum
  split
  · rename_i h; exact ⟨Nat.le_refl _, fun h' => absurd h' h⟩
  · split
    · rename_i h; exact ⟨Nat.le_refl _, fun _ h' => absurd h' h⟩
    · rename_i h
      have h0 := getV_0 (s := r.s) (by simpa using h)
      have := rest_size r.s (getV r.s 0).2.1 (by omega) (by omega)
      exact ⟨by show (restB _ _).size ≤ _; omega, fun _ _ => by show (restB _ _).size < _; omega⟩
theorem F_rInt (r : RD) (hs : r.s.size ≤ 281474976710656) : F_wire_Reader_Int r = some (rInt r) := by
  unfold F_wire_Reader_Int F_wire_Reader_step rInt rNum
  by_cases h : r.e = 0
  · rw [show (r.e != 0) = false by simp [h], cond_false, if_neg (by simpa using h)]
    unfold F_wire_Reader_Int_1 F_vint_GetInt
    rw [F_get0 _ hs]
    have hrng := getV_range r.s 0
    simp only [Option.bind_some]
    rw [F_zag _ hrng.1 hrng.2]
    simp only [Option.bind_some]
    by_cases hc : (getV r.s 0).2.2 = 0
    · rw [show ((getV r.s 0).2.2 != 0) = false by simp [hc], cond_false, if_neg (by simpa using hc)]
      have := getV_0 hc
      rw [grd_t (by omega)]
      simp only [Option.bind_some, Int.toNat_natCast, h]; rfl
    · rw [show ((getV r.s 0).2.2 != 0) = true by simpa using hc, cond_true, if_pos hc, getV_err0 _ _ hc]; rfl
  · rw [show (r.e != 0) = true by simpa using h, cond_true, if_pos h]; rfl
theorem F_rUpto (m : Int) (hm : -9223372036854775808 ≤ m ∧ m ≤ 9223372036854775807) (r : RD) (hs : r.s.size ≤ 281474976710656) : F_wire_Reader_Upto m r = some (rUpto m r) := by
  unfold F_wire_Reader_Upto F_wire_Reader_step_v2 rUpto
  by_cases h : r.e = 0
  · rw [show (r.e != 0) = false by simp [h], cond_false, if_neg (by simpa using h)]
    unfold F_wire_Reader_Upto_1
    rw [F_get0 _ hs]
    simp only [Option.bind_some, F_wire_Reader_Upto_1_J1]
    by_cases hc : (getV r.s 0).2.2 = 0
    · rw [beqt hc, cond_true, if_neg (by simpa using hc)]
      have h0 := getV_0 hc
      by_cases h1 : m < 0
      · rw [dct h1, if_pos (.inl h1)]; rfl
      · rw [dcf h1, cond_false, wu64_of (by omega) (by omega)]
        by_cases h2 : m < (getV r.s 0).1
        · rw [dct h2, if_pos (.inr h2)]; rfl
        · rw [dcf h2, if_neg (by omega)]
          simp only [cond_false, Option.bind_some]
          rw [show ((getV r.s 0).2.2 != 0) = false by simp [hc], cond_false, grd_t (by omega)]
          simp only [Option.bind_some, Bool.not_true, cond_false, Int.toNat_natCast, h]
          rw [w64i (by omega) (by omega)]; rfl
    · rw [beqf hc, cond_false, if_pos hc]
      simp only [cond_false, Option.bind_some]
      rw [show ((getV r.s 0).2.2 != 0) = true by simpa using hc, cond_true]; rfl
  · rw [show (r.e != 0) = true by simpa using h, cond_true, if_pos h]; rfl
theorem rNum_bad {r : RD} (h : r.e ≠ 0) : rNum r = (0, r) := if_pos h
theorem rNum_err {r : RD} (h : r.e = 0) (hc : (getV r.s 0).2.2 ≠ 0) : rNum r = (0, ⟨r.s, (getV r.s 0).2.2⟩) := by
  unfold rNum; rw [if_neg (by simpa using h), if_pos hc]
theorem rNum_ok {r : RD} (h : r.e = 0) (hc : (getV r.s 0).2.2 = 0) : rNum r = ((getV r.s 0).1, ⟨restB r.s (getV r.s 0).2.1, 0⟩) := by
  unfold rNum; rw [if_neg (by simpa using h), if_neg (by simpa using hc)]
theorem rUpto_ok (m : Int) (hm : m ≤ 9223372036854775807) (r : RD) : 0 ≤ (rUpto m r).1 ∧ (rUpto m r).1 ≤ 9223372036854775807 ∧ (rUpto m r).2.s.size ≤ r.s.size := by
  unfold rUpto
  split
  · exact ⟨Int.le_refl _, by show (0 : Int) ≤ _; decide, Nat.le_refl _⟩
  split
  · exact ⟨Int.le_refl _, by show (0 : Int) ≤ _; decide, Nat.le_refl _⟩
  rename_i hc
  have h0 := getV_0 (s := r.s) (by simpa using hc)
  split
  · exact ⟨Int.le_refl _, by show (0 : Int) ≤ _; decide, Nat.le_refl _⟩
  · rename_i h1
    have := rest_size r.s (getV r.s 0).2.1 (by omega) (by omega)
    exact ⟨h0.2.2.1, by show (getV r.s 0).1 ≤ _; omega, by show (restB _ _).size ≤ _; omega⟩
theorem F_rRaw (n : Int) (r : RD) : F_wire_Reader_Raw n r = some (rRaw n r) := by
  unfold F_wire_Reader_Raw F_wire_Reader_step_v3 rRaw
  by_cases h : r.e = 0
  · rw [show (r.e != 0) = false by simp [h], cond_false, if_neg (by simpa using h)]
    unfold F_wire_Reader_Raw_1
    by_cases h1 : n < 0
    · rw [dct h1, cond_true, if_pos h1]; rfl
    · rw [dcf h1, cond_false, if_neg h1]
      by_cases h2 : (r.s.size : Int) < n
      · rw [dct h2, cond_true, if_pos h2]; rfl
      · rw [dcf h2, cond_false, if_neg h2, grd_t (by omega)]
        simp only [Option.bind_some, bne_self_eq_false, cond_false]
        rw [grd_t (by omega)]
        simp only [Option.bind_some, Int.toNat_natCast, h, Int.toNat_zero]; rfl
  · rw [show (r.e != 0) = true by simpa using h, cond_true, if_pos h]; rfl
theorem F_rText (m : Int) (hm : -9223372036854775808 ≤ m ∧ m ≤ 9223372036854775807) (r : RD) (hs : r.s.size ≤ 281474976710656) : F_wire_Reader_Text m r = some (rText m r) := by
  unfold F_wire_Reader_Text rText
  rw [F_rUpto m hm r hs]
  simp only [Option.bind_some]
  rw [F_rRaw]; rfl
theorem size0 (s : ByteArray) : (s.toList == (⟨#[]⟩ : ByteArray).toList) = decide (s.size = 0) := by
  rw [eqS]
  by_cases h : s.size = 0
  · rw [decide_eq_true h, decide_eq_true]
    apply sB_inj; rw [sB_nil]
    exact List.length_eq_zero_iff.1 (by rw [sB_len]; exact h)
  · rw [decide_eq_false h, decide_eq_false]; intro e; rw [e] at h; exact h rfl
theorem F_rBool (r : RD) : F_wire_Reader_Bool r = some (rBool r) := by
  unfold F_wire_Reader_Bool F_wire_Reader_step_v4 rBool
  by_cases h : r.e = 0
  · rw [show (r.e != 0) = false by simp [h], cond_false, if_neg (by simpa using h)]
    unfold F_wire_Reader_Bool_1
    rw [size0]
    by_cases h1 : r.s.size = 0
    · rw [dct h1, cond_true, if_pos h1]; rfl
    · rw [dcf h1, cond_false, if_neg h1]
      have e := sAt_lt (s := r.s) (a := 0) (by omega)
      rw [show ((0 : Nat) : Int) = 0 from rfl] at e
      rw [e]
      simp only [Option.bind_some]
      by_cases h2 : 1 < (sB r.s).getD 0 0
      · rw [dct h2, if_pos h2]; rfl
      · rw [dcf h2, if_neg h2]
        simp only [cond_false, Option.bind_some, bne_self_eq_false]
        rw [grd_t (by omega)]
        simp only [Option.bind_some, cond_true, Int.toNat_natCast, h]; rfl
  · rw [show (r.e != 0) = true by simpa using h, cond_true, if_pos h]; rfl
theorem e01 : ((⟨#[]⟩ : ByteArray).toList == (⟨#[1]⟩ : ByteArray).toList) = false := by decide +kernel
end Go.Ab
