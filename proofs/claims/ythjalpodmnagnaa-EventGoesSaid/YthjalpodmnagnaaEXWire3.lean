/- WireReads and WireNone, plainly. -/
import Derived.Test.YthjalpodmnagnaaEXWire2
namespace Go.Ab
set_option linter.unusedVariables false

theorem rInt_size (r : RD) : (rInt r).2.s.size ≤ r.s.size ∧ (r.e = 0 → (rInt r).2.e = 0 → (rInt r).2.s.size < r.s.size) := rNum_size r
theorem rMany_bad {r : RD} (h : r.e ≠ 0) (n : Nat) : rMany n r = ([], r) := by
  cases n with
  | zero => rfl
  | succ n => exact if_pos h
theorem rMany_len : ∀ (n : Nat) (r : RD), (rMany n r).1.length ≤ r.s.size + 1 ∧ (rMany n r).2.s.size ≤ r.s.size
  | 0, r => ⟨Nat.zero_le _, Nat.le_refl _⟩
  | n + 1, r => by
    unfold rMany
    split
    · exact ⟨Nat.zero_le _, Nat.le_refl _⟩
    · rename_i h
      have h1 := rInt_size r
      obtain ⟨h2, h3⟩ := rMany_len n (rInt r).2
      by_cases he : (rInt r).2.e = 0
      · have := h1.2 (by simpa using h) he
        exact ⟨by simp only [List.length_cons]; omega, by show (rMany n (rInt r).2).2.s.size ≤ _; omega⟩
      · rw [rMany_bad he]
        exact ⟨by simp, h1.1⟩
theorem rInts_len (m : Int) (hm : m ≤ 9223372036854775807) (r : RD) : (rInts m r).1.length ≤ r.s.size + 1 ∧ (rInts m r).2.s.size ≤ r.s.size := by
  have h1 := rUpto_ok m hm r
  have h2 := rMany_len (rUpto m r).1.toNat (rUpto m r).2
  unfold rInts
  refine ⟨?_, by show (rMany _ _).2.s.size ≤ _; omega⟩
  show (if _ then [] else _ : List Int).length ≤ _
  split
  · simp
  · omega
/-- What a read makes of a reader. -/
def endV (r : RD) : Int := if r.e ≠ 0 ∨ r.s.size = 0 then r.e else 3
theorem F_rEnd (r : RD) : F_wire_Reader_End r = some (endV r) := by
  unfold F_wire_Reader_End F_wire_Reader_End_J1 F_wire_Reader_Err F_wire_Reader_Left endV
  simp only [Option.bind_some]
  by_cases h : r.e = 0
  · rw [show (r.e != 0) = false by simp [h], cond_false]
    by_cases h1 : r.s.size = 0
    · rw [beqt (by omega), cond_true, if_pos (.inr h1)]
    · rw [beqf (by omega), cond_false, if_neg (by simp [h, h1])]
  · rw [show (r.e != 0) = true by simpa using h, cond_true, cond_true, if_pos (.inl h)]
theorem F_rEndR (r : RD) : F_retraceref03_Reader_End (rr r) = some (endV r) := by
  unfold F_retraceref03_Reader_End F_retraceref03_Reader_End_J1 endV rr
  simp only []
  by_cases h : r.e = 0
  · rw [beqt h, cond_true]
    by_cases h1 : r.s.size = 0
    · rw [dcf (by omega), cond_false, if_pos (.inr h1)]
    · rw [dct (by omega), cond_true, if_neg (by simp [h, h1])]
  · rw [beqf h, cond_false, cond_false, if_pos (.inl h)]
end Go.Ab
