/- Bytes that are written and read, plainly. -/
import Derived.Test.YtdcgabaobopjpaaBXGet

import Derived.Test.YtdcgabaobopjpaaAbPlain
namespace Go.Ab
set_option linter.unusedVariables false

def intL (n : Int) : List Int := numL (zigN n)
theorem zigN_rng {n : Int} (h0 : -9223372036854775808 ≤ n) (h1 : n ≤ 9223372036854775807) : 0 ≤ zigN n ∧ zigN n ≤ 18446744073709551615 := by
  unfold zigN; split <;> omega
theorem F_zero_put {u : Int} (h0 : 0 ≤ u) (h1 : u ≤ 18446744073709551615) : F_vint_Put (⟨#[]⟩ : ByteArray) u = some (strOfNums (numL u)) := by
  rw [F_put _ (by decide) h0 h1]
  exact congrArg some (by apply sB_inj; rw [sB_app, sB_nil, List.nil_append])
theorem F_zero_putI {n : Int} (h0 : -9223372036854775808 ≤ n) (h1 : n ≤ 9223372036854775807) : F_vint_PutInt (⟨#[]⟩ : ByteArray) n = some (strOfNums (intL n)) := by
  unfold F_vint_PutInt
  rw [F_zig n h0 h1]
  simp only [Option.bind_some]
  rw [F_zero_put (zigN_rng h0 h1).1 (zigN_rng h0 h1).2]
  rfl
theorem F_wadd (p : ByteArray) (w : List Int) (h : w.length + p.size ≤ 1000000000) : F_wire_Writer_add p ⟨w⟩ = some ⟨w ++ sB p⟩ := by
  unfold F_wire_Writer_add; rw [grd_t (by show (w.length + p.size) * 1 ≤ _; omega)]
theorem sB_numL {u : Int} (h0 : 0 ≤ u) (h1 : u ≤ 18446744073709551615) : sB (strOfNums (numL u)) = numL u := sB_num (numL_mem h0 h1)
theorem F_wnum {u : Int} (h0 : 0 ≤ u) (h1 : u ≤ 18446744073709551615) (w : List Int) (h : w.length ≤ 900000000) : F_wire_Writer_Num u ⟨w⟩ = some ⟨w ++ numL u⟩ := by
  unfold F_wire_Writer_Num
  have := (numL_len u).1
  rw [F_zero_put h0 h1]
  simp only [Option.bind_some]
  rw [F_wadd _ _ (by rw [num_size]; omega), sB_numL h0 h1]; rfl
theorem F_wint {n : Int} (h0 : -9223372036854775808 ≤ n) (h1 : n ≤ 9223372036854775807) (w : List Int) (h : w.length ≤ 900000000) : F_wire_Writer_Int n ⟨w⟩ = some ⟨w ++ intL n⟩ := by
  unfold F_wire_Writer_Int
  have := (numL_len (zigN n)).1
  rw [F_zero_putI h0 h1]
  simp only [Option.bind_some]
  rw [F_wadd _ _ (by rw [num_size]; unfold intL; omega)]
  unfold intL
  rw [sB_numL (zigN_rng h0 h1).1 (zigN_rng h0 h1).2]; rfl
def boolL (b : Bool) : List Int := [if b then 1 else 0]
theorem F_wbool (b : Bool) (w : List Int) (h : w.length ≤ 900000000) : F_wire_Writer_Bool b ⟨w⟩ = some ⟨w ++ boolL b⟩ := by
  unfold F_wire_Writer_Bool
  cases b
  · rw [cond_false, F_wadd _ _ (by show w.length + 1 ≤ _; omega)]; rfl
  · rw [cond_true, F_wadd _ _ (by show w.length + 1 ≤ _; omega)]; rfl
def textL (s : ByteArray) : List Int := numL s.size ++ sB s
theorem F_wtext (s : ByteArray) (hs : s.size ≤ 1000000) (w : List Int) (h : w.length ≤ 800000000) : F_wire_Writer_Text s ⟨w⟩ = some ⟨w ++ textL s⟩ := by
  unfold F_wire_Writer_Text textL
  have := (numL_len (s.size : Int)).1
  rw [wu64_of (by omega) (by omega), F_wnum (by omega) (by omega) w (by omega)]
  simp only [Option.bind_some]
  rw [F_wadd _ _ (by rw [List.length_append]; omega), List.append_assoc]; rfl
theorem F_wraw (s : ByteArray) (hs : s.size ≤ 1000000) (w : List Int) (h : w.length ≤ 800000000) : F_wire_Writer_Raw s ⟨w⟩ = some ⟨w ++ sB s⟩ := by
  unfold F_wire_Writer_Raw
  rw [F_wadd _ _ (by omega)]; rfl
def okInts (l : List Int) : Prop := ∀ n ∈ l, -9223372036854775808 ≤ n ∧ n ≤ 9223372036854775807
def intsL (l : List Int) : List Int := numL l.length ++ l.flatMap intL
theorem intL_len (n : Int) : (intL n).length ≤ 10 ∧ 0 < (intL n).length := numL_len _
theorem flat_len (l : List Int) : (l.flatMap intL).length ≤ 10 * l.length := by
  induction l with
  | nil => simp
  | cons x l ih => have := (intL_len x).1; simp only [List.flatMap_cons, List.length_append, List.length_cons]; omega
theorem take_flat {l : List Int} {k : Nat} (h : k < l.length) : (l.take (k + 1)).flatMap intL = (l.take k).flatMap intL ++ intL l[k] := by
  rw [take_snoc h, List.flatMap_append]; simp
theorem F_wints (l : List Int) (hl : l.length ≤ 1000000) (hk : okInts l) (w : List Int) (h : w.length ≤ 700000000) : F_wire_Writer_Ints l ⟨w⟩ = some ⟨w ++ intsL l⟩ := by
  unfold F_wire_Writer_Ints intsL
  have hn := (numL_len (l.length : Int)).1
  rw [wu64_of (by omega) (by omega), F_wnum (by omega) (by omega) w (by omega)]
  simp only [Option.bind_some]
  have := Loop_nat (step := fun s : (Int × (List Int)) => F_wire_Writer_Ints_L1 l s.1 s.2) (fun k => ((k : Int), w ++ numL l.length ++ (l.take k).flatMap intL)) l.length (r := ⟨w ++ (numL l.length ++ l.flatMap intL)⟩) (fun k hk' => ?_) ?_
  · simpa using this
  · show F_wire_Writer_Ints_L1 l (k : Int) _ = _
    have h1 := hk _ (List.getElem_mem hk')
    have h2 := flat_len (l.take k)
    have h3 : (l.take k).length ≤ l.length := by rw [List.length_take]; omega
    unfold F_wire_Writer_Ints_L1
    rw [dct (by omega), cond_true, lAt_lt hk']
    simp only [Option.bind_some]
    rw [F_wint h1.1 h1.2 _ (by rw [List.length_append, List.length_append]; omega)]
    simp only [Option.bind_some]
    rw [w64s (by omega), take_flat hk', List.append_assoc (w ++ numL l.length)]
  · show F_wire_Writer_Ints_L1 l (l.length : Int) _ = _
    unfold F_wire_Writer_Ints_L1
    simp
/- the document's -/
theorem F_rint {n : Int} (h0 : -9223372036854775808 ≤ n) (h1 : n ≤ 9223372036854775807) : F_retraceref03_Int n = some (strOfNums (intL n)) := by
  unfold F_retraceref03_Int
  rw [F_zigR n h0 h1]
  simp only [Option.bind_some]
  rw [F_num (zigN_rng h0 h1).1 (zigN_rng h0 h1).2]; rfl
theorem F_rtext (s : ByteArray) (hs : s.size ≤ 1000000) : F_retraceref03_Text s = some (strOfNums (textL s)) := by
  unfold F_retraceref03_Text textL
  have := (numL_len (s.size : Int)).1
  rw [wu64_of (by omega) (by omega), F_num (by omega) (by omega)]
  simp only [Option.bind_some]
  rw [grd_t (by rw [num_size]; omega), num_app, num_sB]
theorem F_rbool (b : Bool) : F_retraceref03_Bool b = some (strOfNums (boolL b)) := by
  unfold F_retraceref03_Bool; cases b <;> rfl
theorem F_rints (l : List Int) (hl : l.length ≤ 1000000) (hk : okInts l) : F_retraceref03_Ints l = some (strOfNums (intsL l)) := by
  unfold F_retraceref03_Ints intsL
  have hn := (numL_len (l.length : Int)).1
  rw [wu64_of (by omega) (by omega), F_num (by omega) (by omega)]
  simp only [Option.bind_some]
  have := Loop_nat (step := fun s : (ByteArray × Int) => F_retraceref03_Ints_L1 l s.1 s.2) (fun k => (strOfNums (numL l.length ++ (l.take k).flatMap intL), (k : Int))) l.length (r := strOfNums (numL l.length ++ l.flatMap intL)) (fun k hk' => ?_) ?_
  · simpa using this
  · show F_retraceref03_Ints_L1 l _ (k : Int) = _
    have h1 := hk _ (List.getElem_mem hk')
    have h2 := flat_len (l.take k)
    have h3 : (l.take k).length ≤ l.length := by rw [List.length_take]; omega
    have h4 := (intL_len l[k]).1
    unfold F_retraceref03_Ints_L1
    rw [dct (by omega), cond_true, lAt_lt hk']
    simp only [Option.bind_some]
    rw [F_rint h1.1 h1.2]
    simp only [Option.bind_some]
    rw [grd_t (by rw [num_size, num_size, List.length_append]; omega), w64s (by omega), take_flat hk', ← num_app, List.append_assoc]
  · show F_retraceref03_Ints_L1 l _ (l.length : Int) = _
    unfold F_retraceref03_Ints_L1
    simp

def okP (p : T_retracelaw03_Part) : Prop := (0 ≤ p.U ∧ p.U ≤ 18446744073709551615) ∧ (-9223372036854775808 ≤ p.N ∧ p.N ≤ 9223372036854775807) ∧ okInts p.L
def smallP (p : T_retracelaw03_Part) : Prop := p.S.size ≤ 200 ∧ p.L.length ≤ 60
/-- A part's bytes. -/
def partL (p : T_retracelaw03_Part) : List Int :=
  if p.Kind = 0 then numL p.U else if p.Kind = 1 then intL p.N else if p.Kind = 2 then boolL p.B else if p.Kind = 3 then textL p.S else if p.Kind = 4 then sB p.S else if p.Kind = 5 then intsL p.L else []
theorem partL_len (p : T_retracelaw03_Part) (hs : smallP p) : (partL p).length ≤ 700 := by
  have h1 := (numL_len p.U).1
  have h2 := (intL_len p.N).1
  have h3 := (numL_len (p.S.size : Int)).1
  have h4 := (numL_len (p.L.length : Int)).1
  have h5 := flat_len p.L
  obtain ⟨a, b⟩ := hs
  unfold partL
  split
  · omega
  split
  · omega
  split
  · simp [boolL]
  split
  · unfold textL; rw [List.length_append, sB_len]; omega
  split
  · rw [sB_len]; omega
  split
  · unfold intsL; rw [List.length_append]; omega
  · simp
theorem F_write (p : T_retracelaw03_Part) (hp : okP p) (hs : smallP p) (w : List Int) (h : w.length ≤ 100000) : F_retracelaw03_write p ⟨w⟩ = some (strOfNums (partL p), ⟨w ++ partL p⟩) := by
  obtain ⟨⟨u0, u1⟩, ⟨n0, n1⟩, hl⟩ := hp
  obtain ⟨s1, s2⟩ := hs
  unfold F_retracelaw03_write partL
  by_cases k0 : p.Kind = 0
  · rw [beqt k0, cond_true, if_pos k0, F_wnum u0 u1 w (by omega)]
    simp only [Option.bind_some]; rw [F_num u0 u1]; rfl
  rw [beqf k0, cond_false, if_neg k0]
  by_cases k1 : p.Kind = 1
  · rw [beqt k1, cond_true, if_pos k1, F_wint n0 n1 w (by omega)]
    simp only [Option.bind_some]; rw [F_rint n0 n1]; rfl
  rw [beqf k1, cond_false, if_neg k1]
  by_cases k2 : p.Kind = 2
  · rw [beqt k2, cond_true, if_pos k2, F_wbool _ w (by omega)]
    simp only [Option.bind_some]; rw [F_rbool]; rfl
  rw [beqf k2, cond_false, if_neg k2]
  by_cases k3 : p.Kind = 3
  · rw [beqt k3, cond_true, if_pos k3, F_wtext _ (by omega) w (by omega)]
    simp only [Option.bind_some]; rw [F_rtext _ (by omega)]; rfl
  rw [beqf k3, cond_false, if_neg k3]
  by_cases k4 : p.Kind = 4
  · rw [beqt k4, cond_true, if_pos k4, F_wraw _ (by omega) w (by omega)]
    simp only [Option.bind_some]; rw [num_sB]
  rw [beqf k4, cond_false, if_neg k4]
  by_cases k5 : p.Kind = 5
  · rw [beqt k5, cond_true, if_pos k5, F_wints _ (by omega) hl w (by omega)]
    simp only [Option.bind_some]; rw [F_rints _ (by omega) hl]; rfl
  rw [beqf k5, cond_false, if_neg k5]
  simp; rfl
theorem F_longP (l : List T_retracelaw03_Part) : ∃ r, F_retracelaw03_long l = some r ∧ (r = false → l.length ≤ 40 ∧ ∀ p ∈ l, smallP p) := by
  unfold F_retracelaw03_long
  refine Loop_ex (fun s => ∃ k : Nat, s = (k : Int) ∧ k ≤ l.length ∧ k ≤ 40 ∧ ∀ p ∈ l.take k, smallP p) (fun s => l.length - s.toNat) _ (fun s hs => ?_) 0 ⟨0, rfl, Nat.zero_le _, by omega, by simp⟩
  obtain ⟨k, rfl, hk, h20, hall⟩ := hs
  show (∃ s', F_retracelaw03_long_L3 l (k : Int) = _ ∧ _) ∨ ∃ r, F_retracelaw03_long_L3 l (k : Int) = _ ∧ _
  unfold F_retracelaw03_long_L3
  have stop : F_retracelaw03_long_J1 l (k : Int) false = some (.inr (decide (40 < (l.length : Int)))) := by
    unfold F_retracelaw03_long_J1; rw [cond_false]; rfl
  by_cases h1 : k < l.length
  · rw [dct (by omega), cond_true]
    by_cases h2 : k < 40
    · rw [dct (by omega)]
      unfold F_retracelaw03_long_J1
      rw [cond_true, lAt_lt h1]
      simp only [Option.bind_some, F_retracelaw03_long_J2]
      by_cases h3 : 200 < ((l[k]'h1).S.size : Int)
      · right; rw [dct h3, cond_true]; exact ⟨true, rfl, by intro h; cases h⟩
      · rw [dcf h3, cond_false]
        by_cases h4 : 60 < ((l[k]'h1).L.length : Int)
        · right; rw [dct h4]; exact ⟨true, rfl, by intro h; cases h⟩
        · left; rw [dcf h4, w64s (by omega)]
          refine ⟨_, rfl, ⟨k + 1, rfl, by omega, by omega, ?_⟩, by simp; omega⟩
          intro f hf
          rw [take_snoc h1] at hf
          rcases List.mem_append.1 hf with h | h
          · exact hall f h
          · simp at h; subst h; exact ⟨by omega, by omega⟩
    · right; rw [dcf (by omega), stop]
      exact ⟨_, rfl, fun h => by simp at h; omega⟩
  · right; rw [dcf (by omega), cond_false, stop]
    refine ⟨_, rfl, fun h => ⟨by simp at h; omega, ?_⟩⟩
    rw [List.take_of_length_le (by omega)] at hall; exact hall
theorem parts_len (l : List T_retracelaw03_Part) (hs : ∀ p ∈ l, smallP p) : (l.flatMap partL).length ≤ 700 * l.length := by
  induction l with
  | nil => simp
  | cons x l ih =>
    have := partL_len x (hs x (by simp))
    have := ih (fun p hp => hs p (by simp [hp]))
    simp only [List.flatMap_cons, List.length_append, List.length_cons]; omega

end Go.Ab
