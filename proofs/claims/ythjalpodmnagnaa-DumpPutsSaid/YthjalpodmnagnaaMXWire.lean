/- Bytes that are written and read, plainly. -/
import Derived.Test.YthjalpodmnagnaaMXGet

import Derived.Test.YthjalpodmnagnaaAbPlain
namespace Go.Ab
set_option linter.unusedVariables false

def intL (n : Int) : List Int := numL (zigN n)
theorem zigN_rng {n : Int} (h0 : -9223372036854775808 ≤ n) (h1 : n ≤ 9223372036854775807) : 0 ≤ zigN n ∧ zigN n ≤ 18446744073709551615 := by
  unfold zigN; split <;> omega
theorem F_zero_put {u : Int} (h0 : 0 ≤ u) (h1 : u ≤ 18446744073709551615) : F_vint_Put (⟨#[]⟩ : ByteArray) u = some (strOfNums (numL u)) := by
  rw [F_put _ (by decide) h0 h1]
  exact congrArg some (by apply sB_inj; rw [sB_app, sB_nil, List.nil_append])
theorem F_zero_putI {n : Int} (h0 : -9223372036854775808 ≤ n) (h1 : n ≤ 9223372036854775807) : F_vint_PutInt (⟨#[]⟩ : ByteArray) n = some (strOfNums (intL n)) := by
  unfold F_vint_PutInt
  rw [F_zig n h0 h1]
  simp only [Option.bind_some]
  rw [F_zero_put (zigN_rng h0 h1).1 (zigN_rng h0 h1).2]
  rfl
theorem F_wadd (p : ByteArray) (w : List Int) (h : w.length + p.size ≤ 1000000000) : F_wire_Writer_add p ⟨w⟩ = some ⟨w ++ sB p⟩ := by
  unfold F_wire_Writer_add; rw [grd_t (by show (w.length + p.size) * 1 ≤ _; omega)]
theorem sB_numL {u : Int} (h0 : 0 ≤ u) (h1 : u ≤ 18446744073709551615) : sB (strOfNums (numL u)) = numL u := sB_num (numL_mem h0 h1)
theorem F_wnum {u : Int} (h0 : 0 ≤ u) (h1 : u ≤ 18446744073709551615) (w : List Int) (h : w.length ≤ 900000000) : F_wire_Writer_Num u ⟨w⟩ = some ⟨w ++ numL u⟩ := by
  unfold F_wire_Writer_Num
  have := (numL_len u).1
  rw [F_zero_put h0 h1]
  simp only [Option.bind_some]
  rw [F_wadd _ _ (by rw [num_size]; omega), sB_numL h0 h1]; rfl
theorem F_wint {n : Int} (h0 : -9223372036854775808 ≤ n) (h1 : n ≤ 9223372036854775807) (w : List Int) (h : w.length ≤ 900000000) : F_wire_Writer_Int n ⟨w⟩ = some ⟨w ++ intL n⟩ := by
  unfold F_wire_Writer_Int
  have := (numL_len (zigN n)).1
  rw [F_zero_putI h0 h1]
  simp only [Option.bind_some]
  rw [F_wadd _ _ (by rw [num_size]; unfold intL; omega)]
  unfold intL
  rw [sB_numL (zigN_rng h0 h1).1 (zigN_rng h0 h1).2]; rfl
def boolL (b : Bool) : List Int := [if b then 1 else 0]
def textL (s : ByteArray) : List Int := numL s.size ++ sB s
def okInts (l : List Int) : Prop := ∀ n ∈ l, -9223372036854775808 ≤ n ∧ n ≤ 9223372036854775807
def intsL (l : List Int) : List Int := numL l.length ++ l.flatMap intL
theorem intL_len (n : Int) : (intL n).length ≤ 10 ∧ 0 < (intL n).length := numL_len _
theorem flat_len (l : List Int) : (l.flatMap intL).length ≤ 10 * l.length := by
  induction l with
  | nil => simp
  | cons x l ih => have := (intL_len x).1; simp only [List.flatMap_cons, List.length_append, List.length_cons]; omega
theorem take_flat {l : List Int} {k : Nat} (h : k < l.length) : (l.take (k + 1)).flatMap intL = (l.take k).flatMap intL ++ intL l[k] := by
  rw [take_snoc h, List.flatMap_append]; simp
theorem F_wints (l : List Int) (hl : l.length ≤ 1000000) (hk : okInts l) (w : List Int) (h : w.length ≤ 700000000) : F_wire_Writer_Ints l ⟨w⟩ = some ⟨w ++ intsL l⟩ := by
  unfold F_wire_Writer_Ints intsL
  have hn := (numL_len (l.length : Int)).1
  rw [wu64_of (by omega) (by omega), F_wnum (by omega) (by omega) w (by omega)]
  simp only [Option.bind_some]
  have := Loop_nat (step := fun s : (Int × (List Int)) => F_wire_Writer_Ints_L1 l s.1 s.2) (fun k => ((k : Int), w ++ numL l.length ++ (l.take k).flatMap intL)) l.length (r := ⟨w ++ (numL l.length ++ l.flatMap intL)⟩) (fun k hk' => ?_) ?_
  · simpa using this
  · show F_wire_Writer_Ints_L1 l (k : Int) _ = _
    have h1 := hk _ (List.getElem_mem hk')
    have h2 := flat_len (l.take k)
    have h3 : (l.take k).length ≤ l.length := by rw [List.length_take]; omega
    unfold F_wire_Writer_Ints_L1
    rw [dct (by omega), cond_true, lAt_lt hk']
    simp only [Option.bind_some]
    rw [F_wint h1.1 h1.2 _ (by rw [List.length_append, List.length_append]; omega)]
    simp only [Option.bind_some]
    rw [w64s (by omega), take_flat hk', List.append_assoc (w ++ numL l.length)]
  · show F_wire_Writer_Ints_L1 l (l.length : Int) _ = _
    unfold F_wire_Writer_Ints_L1
    simp
/- the document's -/
theorem F_rint {n : Int} (h0 : -9223372036854775808 ≤ n) (h1 : n ≤ 9223372036854775807) : F_retraceref03_Int n = some (strOfNums (intL n)) := by
  unfold F_retraceref03_Int
  rw [F_zigR n h0 h1]
  simp only [Option.bind_some]
  rw [F_num (zigN_rng h0 h1).1 (zigN_rng h0 h1).2]; rfl
theorem F_rints (l : List Int) (hl : l.length ≤ 1000000) (hk : okInts l) : F_retraceref03_Ints l = some (strOfNums (intsL l)) := by
  unfold F_retraceref03_Ints intsL
  have hn := (numL_len (l.length : Int)).1
  rw [wu64_of (by omega) (by omega), F_num (by omega) (by omega)]
  simp only [Option.bind_some]
  have := Loop_nat (step := fun s : (ByteArray × Int) => F_retraceref03_Ints_L1 l s.1 s.2) (fun k => (strOfNums (numL l.length ++ (l.take k).flatMap intL), (k : Int))) l.length (r := strOfNums (numL l.length ++ l.flatMap intL)) (fun k hk' => ?_) ?_
  · simpa using this
  · show F_retraceref03_Ints_L1 l _ (k : Int) = _
    have h1 := hk _ (List.getElem_mem hk')
    have h2 := flat_len (l.take k)
    have h3 : (l.take k).length ≤ l.length := by rw [List.length_take]; omega
    have h4 := (intL_len l[k]).1
    unfold F_retraceref03_Ints_L1
    rw [dct (by omega), cond_true, lAt_lt hk']
    simp only [Option.bind_some]
    rw [F_rint h1.1 h1.2]
    simp only [Option.bind_some]
    rw [grd_t (by rw [num_size, num_size, List.length_append]; omega), w64s (by omega), take_flat hk', ← num_app, List.append_assoc]
  · show F_retraceref03_Ints_L1 l _ (l.length : Int) = _
    unfold F_retraceref03_Ints_L1
    simp

end Go.Ab
