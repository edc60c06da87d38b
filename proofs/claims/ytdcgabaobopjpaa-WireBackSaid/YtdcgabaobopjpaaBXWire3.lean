/- WireReads and WireNone, plainly. -/
import Derived.Test.YtdcgabaobopjpaaBXWire2
namespace Go.Ab
set_option linter.unusedVariables false

theorem F_sameI0 (a b : List Int) (hl : a.length < 1000000000) (d : Bool) (hd : d = true ↔ a = b) : F_retraceref03_Same b a = some d := by
  unfold F_retraceref03_Same
  by_cases h : a.length = b.length
  · have : (((a.length : Int)) != ((b.length : Int))) = false := by simp; omega
    rw [this, cond_false]
    refine Loop_same a b h (fun x y => (x == y)) (fun x y => by simp) (by omega) (fun k x y hx hy => ?_) ?_ d hd
    · have hk := lt_of_getL hx
      show F_retraceref03_Same_L1 b a (k : Int) = _
      unfold F_retraceref03_Same_L1
      rw [lAtn, lAtn, hx, hy, dct (by omega), cond_true]
      simp only [Option.bind_some, bne]
      cases (x == y) <;> rfl
    · show F_retraceref03_Same_L1 b a (a.length : Int) = _
      unfold F_retraceref03_Same_L1
      simp
  · have : (((a.length : Int)) != ((b.length : Int))) = true := by simp; omega
    rw [this, cond_true]
    cases d with
    | false => rfl
    | true => have := hd.1 rfl; subst this; exact absurd rfl h
theorem F_sameI (a b : List Int) (hl : b.length < 1000000000) (d : Bool) (hd : d = true ↔ a = b) : F_retraceref03_Same a b = some d := F_sameI0 b a hl d (hd.trans eq_comm)

theorem rInt_size (r : RD) : (rInt r).2.s.size ≤ r.s.size ∧ (r.e = 0 → (rInt r).2.e = 0 → (rInt r).2.s.size < r.s.size) := rNum_size r
theorem rMany_bad {r : RD} (h : r.e ≠ 0) (n : Nat) : rMany n r = ([], r) := by
  cases n with
  | zero => rfl
  | succ n => exact if_pos h
theorem rMany_len : ∀ (n : Nat) (r : RD), (rMany n r).1.length ≤ r.s.size + 1 ∧ (rMany n r).2.s.size ≤ r.s.size
  | 0, r => ⟨Nat.zero_le _, Nat.le_refl _⟩
  | n + 1, r => by
    unfold rMany
    split
    · exact ⟨Nat.zero_le _, Nat.le_refl _⟩
    · rename_i h
      have h1 := rInt_size r
      obtain ⟨h2, h3⟩ := rMany_len n (rInt r).2
      by_cases he : (rInt r).2.e = 0
      · have := h1.2 (by simpa using h) he
        exact ⟨by simp only [List.length_cons]; omega, by show (rMany n (rInt r).2).2.s.size ≤ _; omega⟩
      · rw [rMany_bad he]
        exact ⟨by simp, h1.1⟩
theorem many_prog (y : Int × RD) : ∀ (n : Nat) (r : RD) (out : List Int), (out.length : Int) + n = y.1 → out.length + r.s.size ≤ 1000000 → out.length ≤ 1000001 → r.s.size ≤ 1000000 → (r.e = 0 ∨ True) →
    Loop (fun s : (ByteArray × Int × (List Int)) => F_wire_Reader_Ints_L2 y s.1 s.2.1 s.2.2) (r.s, r.e, out) = some (if (rMany n r).2.e ≠ 0 then [] else out ++ (rMany n r).1, (rMany n r).2) := by
  have fin : ∀ (r : RD) (out : List Int), F_wire_Reader_Ints_J1 r.s r.e out false = some (.inr (if r.e ≠ 0 then [] else out, r)) := by
    intro r out
    unfold F_wire_Reader_Ints_J1 F_wire_Reader_Err
    rw [cond_false]
    simp only [Option.bind_some]
    by_cases h : r.e = 0
    · rw [show (r.e != 0) = false by simp [h], cond_false, if_neg (by simpa using h)]; rfl
    · rw [show (r.e != 0) = true by simpa using h, cond_true, if_pos h]; rfl
  intro n
  induction n with
  | zero =>
    intro r out hn hb hb2 hb3 _
    refine Loop_inr ?_
    show F_wire_Reader_Ints_L2 y r.s r.e out = _
    unfold F_wire_Reader_Ints_L2
    rw [dcf (by omega), cond_false, fin]
    simp [rMany]
  | succ n ih =>
    intro r out hn hb hb2 hb3 _
    by_cases he : r.e = 0
    · have hs := rInt_size r
      have step : F_wire_Reader_Ints_L2 y r.s r.e out = some (.inl ((rInt r).2.s, (rInt r).2.e, out ++ [(rInt r).1])) := by
        unfold F_wire_Reader_Ints_L2 F_wire_Reader_Err F_wire_Reader_Ints_J1
        rw [dct (by omega), cond_true]
        simp only [Option.bind_some]
        rw [beqt he, cond_true, F_rInt ⟨r.s, r.e⟩ (by show r.s.size ≤ _; omega)]
        simp only [Option.bind_some]
        rw [grd_t (by simp; omega)]
      rw [Loop_inl (step := fun s : (ByteArray × Int × (List Int)) => F_wire_Reader_Ints_L2 y s.1 s.2.1 s.2.2) (s := (r.s, r.e, out)) step]
      by_cases he2 : (rInt r).2.e = 0
      · have hlt := hs.2 he he2
        rw [ih (rInt r).2 (out ++ [(rInt r).1]) (by simp; omega) (by simp; omega) (by simp; omega) (by omega) (.inr trivial)]
        have e : rMany (n + 1) r = ((rInt r).1 :: (rMany n (rInt r).2).1, (rMany n (rInt r).2).2) := if_neg (by simpa using he)
        rw [e]
        simp
      · have e : rMany (n + 1) r = ((rInt r).1 :: (rMany n (rInt r).2).1, (rMany n (rInt r).2).2) := if_neg (by simpa using he)
        rw [e, rMany_bad he2]
        refine Loop_inr ?_
        show F_wire_Reader_Ints_L2 y (rInt r).2.s (rInt r).2.e (out ++ [(rInt r).1]) = _
        unfold F_wire_Reader_Ints_L2 F_wire_Reader_Err
        simp only [Option.bind_some]
        rw [beqf he2, fin, if_pos he2]
        cases decide (((out ++ [(rInt r).1]).length : Int) < y.1) <;> rfl
    · rw [rMany_bad he]
      refine Loop_inr ?_
      show F_wire_Reader_Ints_L2 y r.s r.e out = _
      unfold F_wire_Reader_Ints_L2 F_wire_Reader_Err
      simp only [Option.bind_some]
      simp only [ne_eq, he, not_false_eq_true, if_true]
      rw [beqf he, fin, if_pos he]
      cases decide ((out.length : Int) < y.1) <;> rfl
theorem F_rInts (m : Int) (hm : -9223372036854775808 ≤ m ∧ m ≤ 9223372036854775807) (r : RD) (hs : r.s.size ≤ 900000) : F_wire_Reader_Ints m r = some (rInts m r) := by
  unfold F_wire_Reader_Ints rInts
  rw [F_rUpto m hm r (by omega)]
  simp only [Option.bind_some]
  have hu := rUpto_ok m hm.2 r
  have := many_prog (rUpto m r) (rUpto m r).1.toNat (rUpto m r).2 [] (by simp; omega) (by simp; omega) (by simp) (by omega) (.inr trivial)
  simpa using this
theorem rInts_len (m : Int) (hm : m ≤ 9223372036854775807) (r : RD) : (rInts m r).1.length ≤ r.s.size + 1 ∧ (rInts m r).2.s.size ≤ r.s.size := by
  have h1 := rUpto_ok m hm r
  have h2 := rMany_len (rUpto m r).1.toNat (rUpto m r).2
  unfold rInts
  refine ⟨?_, by show (rMany _ _).2.s.size ≤ _; omega⟩
  show (if _ then [] else _ : List Int).length ≤ _
  split
  · simp
  · omega
/-- What a read makes of a reader. -/
def endV (r : RD) : Int := if r.e ≠ 0 ∨ r.s.size = 0 then r.e else 3
theorem F_rEnd (r : RD) : F_wire_Reader_End r = some (endV r) := by
  unfold F_wire_Reader_End F_wire_Reader_End_J1 F_wire_Reader_Err F_wire_Reader_Left endV
  simp only [Option.bind_some]
  by_cases h : r.e = 0
  · rw [show (r.e != 0) = false by simp [h], cond_false]
    by_cases h1 : r.s.size = 0
    · rw [beqt (by omega), cond_true, if_pos (.inr h1)]
    · rw [beqf (by omega), cond_false, if_neg (by simp [h, h1])]
  · rw [show (r.e != 0) = true by simpa using h, cond_true, cond_true, if_pos (.inl h)]
end Go.Ab
