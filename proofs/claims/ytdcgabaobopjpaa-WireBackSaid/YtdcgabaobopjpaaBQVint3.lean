import Derived.Test.YtdcgabaobopjpaaBQVint2
namespace Go.Ab
set_option linter.unusedVariables false

def putS : Nat → Int → List Int
  | 0, u => [u]
  | d + 1, u => if u < 128 then [u] else (u % 128 + 128) :: putS d (u / 128)

theorem or128 (x : Int) (h0 : 0 ≤ x) (h1 : x ≤ 255) : bits .or .u8 x 128 = x % 128 + 128 := by
  obtain ⟨n, rfl⟩ := Int.eq_ofNat_of_zero_le h0
  have : ∀ i : _root_.Fin 256, bits .or .u8 ((i.val : Nat) : Int) 128 = ((i.val : Nat) : Int) % 128 + 128 := by decide +kernel
  exact this ⟨n, by omega⟩
theorem wu8_mod (u : Int) : wu8 u = u % 256 := by rw [wu8, IntKind.wrap_u8]

theorem putS_mem : ∀ (d : Nat) (u : Int), 0 ≤ u → u < 128 ^ (d + 1) → ∀ x ∈ putS d u, 0 ≤ x ∧ x ≤ 255
  | 0, u, h0, h1, x, hx => by simp [putS] at hx; subst hx; omega
  | d + 1, u, h0, h1, x, hx => by
    unfold putS at hx
    split at hx
    · simp at hx; subst hx; omega
    · rcases List.mem_cons.1 hx with rfl | hx
      · omega
      · have hp : (128 : Int) ^ (d + 1 + 1) = 128 ^ (d + 1) * 128 := Int.pow_succ _ _
        exact putS_mem d (u / 128) (by omega) (by omega) x hx
theorem putS_len : ∀ (d : Nat) (u : Int), (putS d u).length ≤ d + 1 ∧ 0 < (putS d u).length
  | 0, u => by simp [putS]
  | d + 1, u => by
    unfold putS
    split
    · simp
    · have := putS_len d (u / 128)
      simp; omega
theorem putS_more : ∀ (d : Nat) (u : Int), 0 ≤ u → u < 128 ^ (d + 1) → putS (d + 1) u = putS d u
  | 0, u, h0, h1 => by unfold putS; rw [if_pos (by omega)]
  | d + 1, u, h0, h1 => by
    have hp : (128 : Int) ^ (d + 1 + 1) = 128 ^ (d + 1) * 128 := Int.pow_succ _ _
    rw [putS]
    conv => rhs; rw [putS]
    split
    · rfl
    · rw [putS_more d (u / 128) (by omega) (by omega)]

def numL (u : Int) : List Int := putS 9 u
theorem numL_small {u : Int} (h : u < 128) : numL u = [u] := by unfold numL putS; rw [if_pos h]
theorem numL_big {u : Int} (h : ¬ u < 128) (h1 : u ≤ 18446744073709551615) : numL u = (u % 128 + 128) :: numL (u / 128) := by
  unfold numL
  have e : (128 : Int) ^ (8 + 1) = 9223372036854775808 := by decide
  rw [show putS 9 (u / 128) = putS 8 (u / 128) from putS_more 8 (u / 128) (by omega) (by omega)]
  show putS (8 + 1) u = _
  rw [putS, if_neg h]
theorem numL_mem {u : Int} (h0 : 0 ≤ u) (h1 : u ≤ 18446744073709551615) : ∀ x ∈ numL u, 0 ≤ x ∧ x ≤ 255 := by
  have e : (128 : Int) ^ (9 + 1) = 1180591620717411303424 := by decide
  exact putS_mem 9 u h0 (by omega)
theorem numL_len (u : Int) : (numL u).length ≤ 10 ∧ 0 < (numL u).length := putS_len 9 u

theorem size_loop : ∀ (d : Nat) (u n : Int), 0 ≤ u → u < 128 ^ (d + 1) → 0 ≤ n → n + d ≤ 1000 → Loop (fun s : (Int × Int) => F_vint_Size_L1 s.1 s.2) (u, n) = some (n + (putS d u).length - 1) := by
  intro d
  induction d with
  | zero =>
    intro u n h0 h1 hn hd
    have e : decide (128 ≤ u) = false := by simp; omega
    refine Loop_inr ?_
    show F_vint_Size_L1 u n = _
    unfold F_vint_Size_L1
    rw [e, cond_false]
    simp [putS]
  | succ d ih =>
    intro u n h0 h1 hn hd
    have hp : (128 : Int) ^ (d + 1 + 1) = 128 ^ (d + 1) * 128 := Int.pow_succ _ _
    by_cases h : u < 128
    · have e : decide (128 ≤ u) = false := by simp; omega
      refine Loop_inr ?_
      show F_vint_Size_L1 u n = _
      unfold F_vint_Size_L1
      rw [e, cond_false]
      simp [putS, h]
    · have e : decide (128 ≤ u) = true := by simp; omega
      have hs : F_vint_Size_L1 u n = some (.inl (u / 128, n + 1)) := by
        unfold F_vint_Size_L1
        rw [e, cond_true, w64_of (by omega) (by omega), Int.fdiv_eq_ediv_of_nonneg _ (by decide)]
      rw [Loop_inl (step := fun s : (Int × Int) => F_vint_Size_L1 s.1 s.2) (s := (u, n)) hs, ih (u / 128) (n + 1) (by omega) (by omega) (by omega) (by omega)]
      rw [putS, if_neg h]
      simp; omega
theorem F_size {u : Int} (h0 : 0 ≤ u) (h1 : u ≤ 18446744073709551615) : F_vint_Size u = some ((numL u).length : Int) := by
  have e : (128 : Int) ^ (9 + 1) = 1180591620717411303424 := by decide
  unfold F_vint_Size
  rw [size_loop 9 u 1 h0 (by omega) (by decide) (by decide)]
  unfold numL
  congr 1
  omega

theorem put_loop : ∀ (d : Nat) (u : Int) (out : List Int), 0 ≤ u → u < 128 ^ (d + 1) → out.length + d + 1 ≤ 1000000 → Loop (fun s : (Int × (List Int)) => F_vint_Put_L1 s.1 s.2) (u, out) = some (strOfNums (out ++ putS d u)) := by
  have small : ∀ (u : Int) (out : List Int), 0 ≤ u → u < 128 → out.length + 1 ≤ 1000000 → F_vint_Put_L1 u out = some (.inr (strOfNums (out ++ [u]))) := by
    intro u out h0 h1 hd
    have e : decide (128 ≤ u) = false := by simp; omega
    unfold F_vint_Put_L1
    rw [e, cond_false]
    unfold grd
    rw [if_pos (by simp; omega), wu8_of h0 (by omega)]
    rfl
  intro d
  induction d with
  | zero =>
    intro u out h0 h1 hd
    exact Loop_inr (step := fun s : (Int × (List Int)) => F_vint_Put_L1 s.1 s.2) (s := (u, out)) (small u out h0 (by omega) (by omega))
  | succ d ih =>
    intro u out h0 h1 hd
    have hp : (128 : Int) ^ (d + 1 + 1) = 128 ^ (d + 1) * 128 := Int.pow_succ _ _
    by_cases h : u < 128
    · rw [putS, if_pos h]
      exact Loop_inr (step := fun s : (Int × (List Int)) => F_vint_Put_L1 s.1 s.2) (s := (u, out)) (small u out h0 (by omega) (by omega))
    · have e : decide (128 ≤ u) = true := by simp; omega
      have hs : F_vint_Put_L1 u out = some (.inl (u / 128, out ++ [u % 128 + 128])) := by
        unfold F_vint_Put_L1 grd
        have e2 : bits .or .u8 (wu8 u) 128 = u % 128 + 128 := by rw [wu8_mod, or128 _ (by omega) (by omega)]; omega
        rw [e, cond_true, e2, if_pos (by simp; omega), Int.fdiv_eq_ediv_of_nonneg _ (by decide)]
      rw [Loop_inl (step := fun s : (Int × (List Int)) => F_vint_Put_L1 s.1 s.2) (s := (u, out)) hs, ih (u / 128) _ (by omega) (by omega) (by simp; omega)]
      rw [putS, if_neg h]
      simp

theorem F_put (s : ByteArray) (hs : s.size ≤ 100000) {u : Int} (h0 : 0 ≤ u) (h1 : u ≤ 18446744073709551615) : F_vint_Put s u = some (s ++ strOfNums (numL u)) := by
  have e : (128 : Int) ^ (9 + 1) = 1180591620717411303424 := by decide
  have hn := numL_len u
  unfold F_vint_Put
  rw [F_size h0 h1]
  simp only [Option.bind_some]
  have ew : w64 ((s.size : Int) + ((numL u).length : Int)) = (s.size : Int) + ((numL u).length : Int) := w64_of (by omega) (by omega)
  unfold grd
  rw [ew, if_pos (by omega), if_pos (by simp; omega), List.nil_append]
  rw [put_loop 9 u (sB s) h0 (by omega) (by rw [sB_len]; omega), num_app, num_sB]
  rfl

theorem num_det : ∀ (m : Nat) (u : Int) (r : ByteArray), 0 ≤ u → u ≤ 18446744073709551615 → F_retraceref01_Num_N m u = some r → r = strOfNums (numL u)
  | 0, u, r, _, _, h => by simp [F_retraceref01_Num_N] at h
  | m + 1, u, r, h0, h1, h => by
    have h : F_retraceref01_Num_B (F_retraceref01_Num_N m) u = some r := h
    unfold F_retraceref01_Num_B at h
    by_cases hu : u < 128
    · rw [decide_eq_true hu, cond_true, wu8_of h0 (by omega)] at h
      rw [numL_small hu]; exact (some_eq h).symm
    · rw [decide_eq_false hu, cond_false] at h
      have e1 : wu64 (Int.tdiv u 128) = u / 128 := by rw [Int.tdiv_eq_ediv_of_nonneg h0]; exact wu64_of (by omega) (by omega)
      have e2 : wu8 (wu8 (Int.tmod u 128) + 128) = u % 128 + 128 := by
        rw [Int.tmod_eq_emod_of_nonneg h0, wu8_of (n := u % 128) (by omega) (by omega)]; exact wu8_of (by omega) (by omega)
      rw [e1, e2] at h
      obtain ⟨y, hy, h⟩ := bind_some h
      obtain ⟨_, h⟩ := grd_some h
      rw [num_det m (u / 128) y (by omega) (by omega) hy] at h
      rw [numL_big hu h1, ← some_eq h]
      exact (num_app [u % 128 + 128] _).symm
theorem num_ex : ∀ (d : Nat) (u : Int), 0 ≤ u → u ≤ 18446744073709551615 → u < 128 ^ (d + 1) → F_retraceref01_Num_N (d + 1) u = some (strOfNums (numL u)) := by
  intro d
  induction d with
  | zero =>
    intro u h0 h1 h2
    show F_retraceref01_Num_B _ u = _
    unfold F_retraceref01_Num_B
    have hu : u < 128 := by omega
    rw [decide_eq_true hu, cond_true, wu8_of h0 (by omega), numL_small hu]
  | succ d ih =>
    intro u h0 h1 h2
    have hp : (128 : Int) ^ (d + 1 + 1) = 128 ^ (d + 1) * 128 := Int.pow_succ _ _
    show F_retraceref01_Num_B _ u = _
    unfold F_retraceref01_Num_B
    by_cases hu : u < 128
    · rw [decide_eq_true hu, cond_true, wu8_of h0 (by omega), numL_small hu]
    · have e1 : wu64 (Int.tdiv u 128) = u / 128 := by rw [Int.tdiv_eq_ediv_of_nonneg h0]; exact wu64_of (by omega) (by omega)
      have e2 : wu8 (wu8 (Int.tmod u 128) + 128) = u % 128 + 128 := by
        rw [Int.tmod_eq_emod_of_nonneg h0, wu8_of (n := u % 128) (by omega) (by omega)]; exact wu8_of (by omega) (by omega)
      rw [decide_eq_false hu, cond_false, e1, e2, ih (u / 128) (by omega) (by omega) (by omega)]
      have := numL_len (u / 128)
      simp only [Option.bind_some]
      unfold grd
      rw [if_pos (by rw [num_size, num_size]; simp; omega), numL_big hu h1]
      exact congrArg some (num_app [u % 128 + 128] _).symm
theorem F_num {u : Int} (h0 : 0 ≤ u) (h1 : u ≤ 18446744073709551615) : F_retraceref01_Num u = some (strOfNums (numL u)) := by
  have e : (128 : Int) ^ (9 + 1) = 1180591620717411303424 := by decide
  exact lim_of 10 (num_ex 9 u h0 h1 (by omega)) (fun m r hr => num_det m u r h0 h1 hr)
end Go.Ab
