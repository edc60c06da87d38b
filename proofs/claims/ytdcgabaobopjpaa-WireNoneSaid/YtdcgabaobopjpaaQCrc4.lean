import Derived.Test.YtdcgabaobopjpaaQCrc3
namespace Go.Ab
set_option linter.unusedVariables false

def toI (l : List Nat) : List Int := l.map fun n : Nat => (n : Int)
theorem cast_inj {a b : List Nat} (h : (a.map fun n : Nat => (n : Int)) = b.map fun n : Nat => (n : Int)) : a = b :=
  (List.map_inj_right (f := fun n : Nat => (n : Int)) (fun x y hxy => Int.ofNat.inj hxy)).1 h
theorem toI_len (l : List Nat) : (toI l).length = l.length := by simp [toI]
theorem toI_set (l : List Nat) (j x : Nat) : (toI l).set j (x : Int) = toI (l.set j x) := by simp [toI, List.map_set]

theorem add_bit {M i : Nat} (h : M < 2 ^ i) : M + 2 ^ i = M ^^^ 2 ^ i := by
  apply Nat.eq_of_testBit_eq
  intro q
  rw [Nat.testBit_xor, Nat.testBit_two_pow, Nat.add_comm]
  rcases Nat.lt_trichotomy q i with hq | hq | hq
  · rw [Nat.testBit_two_pow_add_gt hq]
    simp [show ¬ i = q by omega]
  · subst hq
    rw [Nat.testBit_two_pow_add_eq]
    simp
  · have h1 : 2 ^ i + M < 2 ^ q := Nat.lt_of_lt_of_le (by rw [Nat.pow_succ]; omega : 2 ^ i + M < 2 ^ (i + 1)) (Nat.pow_le_pow_right (by decide) hq)
    have h2 : M < 2 ^ q := by omega
    rw [Nat.testBit_lt_two_pow h1, Nat.testBit_lt_two_pow h2]
    simp [show ¬ i = q by omega]

theorem byte_bit {M i a j : Nat} (h : M < 2 ^ i) : (M + 2 ^ i) * 2 ^ a / 2 ^ (8 * j) % 256 = (M * 2 ^ a / 2 ^ (8 * j) % 256) ^^^ (if (a + i) / 8 = j then 2 ^ ((a + i) % 8) else 0) := by
  rw [add_bit h]
  apply Nat.eq_of_testBit_eq
  intro q
  have e256 : (256 : Nat) = 2 ^ 8 := by decide
  rw [e256, Nat.testBit_xor, Nat.testBit_mod_two_pow, Nat.testBit_mod_two_pow, Nat.testBit_div_two_pow, Nat.testBit_div_two_pow, Nat.testBit_mul_two_pow, Nat.testBit_mul_two_pow, Nat.testBit_xor, Nat.testBit_two_pow]
  by_cases hq : q < 8
  · simp only [hq, decide_true, Bool.true_and]
    by_cases ha : a ≤ q + 8 * j
    · simp only [ha, decide_true, Bool.true_and]
      congr 1
      by_cases hj : (a + i) / 8 = j
      · rw [if_pos hj, Nat.testBit_two_pow]
        congr 1
        apply propext
        constructor <;> intro <;> omega
      · rw [if_neg hj, Nat.zero_testBit]
        have : ¬ i = q + 8 * j - a := by omega
        simp [this]
    · simp only [ha, decide_false, Bool.false_and, Bool.false_xor]
      by_cases hj : (a + i) / 8 = j
      · rw [if_pos hj, Nat.testBit_two_pow]
        have : ¬ (a + i) % 8 = q := by omega
        simp [this]
      · rw [if_neg hj, Nat.zero_testBit]
  · simp only [hq, decide_false, Bool.false_and, Bool.false_xor]
    by_cases hj : (a + i) / 8 = j
    · rw [if_pos hj, Nat.testBit_two_pow]
      have : ¬ (a + i) % 8 = q := by omega
      simp [this]
    · rw [if_neg hj, Nat.zero_testBit]

theorem mod_bit {m i : Nat} : m % 2 ^ (i + 1) = m % 2 ^ i + (if m / 2 ^ i % 2 = 1 then 2 ^ i else 0) := by
  rw [Nat.pow_succ, Nat.mod_mul]
  split
  · rename_i h; rw [h, Nat.mul_one]
  · rename_i h
    have : m / 2 ^ i % 2 = 0 := by omega
    rw [this, Nat.mul_zero]

theorem xorL_get {l e : List Nat} {j : Nat} : (xorL l e)[j]? = match l[j]?, e[j]? with | some x, some y => some (x ^^^ y) | _, _ => none := by
  unfold xorL
  rw [List.getElem?_zipWith]
  cases l[j]? <;> cases e[j]? <;> rfl

/-- One more bit of the mask. -/
theorem turn_bit {l : List Nat} {M i a : Nat} (hM : M < 2 ^ i) (hlt : (a + i) / 8 < l.length) (x : Nat) (hx : (xorL l (bytesN l.length (M * 2 ^ a)))[(a + i) / 8]? = some x) :
    (xorL l (bytesN l.length (M * 2 ^ a))).set ((a + i) / 8) (x ^^^ 2 ^ ((a + i) % 8)) = xorL l (bytesN l.length ((M + 2 ^ i) * 2 ^ a)) := by
  apply List.ext_getElem?
  intro j
  rw [List.getElem?_set]
  by_cases e : (a + i) / 8 = j
  · subst e
    have hlen : (a + i) / 8 < (xorL l (bytesN l.length (M * 2 ^ a))).length := lt_of_getL hx
    rw [if_pos rfl, if_pos hlen, xorL_get, bytesN_get _ _ _ hlt, byte_bit hM, if_pos rfl]
    rw [xorL_get, bytesN_get _ _ _ hlt] at hx
    rw [List.getElem?_eq_getElem hlt] at hx ⊢
    simp only [Option.some.injEq] at hx ⊢
    rw [← hx, Nat.xor_assoc]
  · rw [if_neg e, xorL_get, xorL_get]
    by_cases hj : j < l.length
    · rw [bytesN_get _ _ _ hj, bytesN_get _ _ _ hj, byte_bit hM, if_neg e, Nat.xor_zero]
    · rw [List.getElem?_eq_none (Nat.not_lt.1 hj)]
theorem turn_out {l : List Nat} {M i a : Nat} (hM : M < 2 ^ i) (hge : l.length ≤ (a + i) / 8) : xorL l (bytesN l.length (M * 2 ^ a)) = xorL l (bytesN l.length ((M + 2 ^ i) * 2 ^ a)) := by
  apply List.ext_getElem?
  intro j
  rw [xorL_get, xorL_get]
  by_cases hj : j < l.length
  · rw [bytesN_get _ _ _ hj, bytesN_get _ _ _ hj, byte_bit hM, if_neg (by omega), Nat.xor_zero]
  · rw [List.getElem?_eq_none (Nat.not_lt.1 hj)]

theorem pow8 : ∀ b : Nat, b < 8 → wu8 (1 * 2 ^ (min (Int.toNat (wu64 ((b : Nat) : Int))) 8)) = ((2 ^ b : Nat) : Int) := by decide +kernel

theorem xorL_lt {l e : List Nat} (h1 : ∀ x ∈ l, x < 256) (h2 : ∀ x ∈ e, x < 256) : ∀ x ∈ xorL l e, x < 256 := by
  intro x hx
  obtain ⟨j, hj⟩ := List.getElem?_of_mem hx
  rw [xorL_get] at hj
  split at hj
  · rename_i a b ha hb
    simp at hj; subst hj
    exact Nat.xor_lt_two_pow (n := 8) (h1 a (List.mem_of_getElem? ha)) (h2 b (List.mem_of_getElem? hb))
  · cases hj
theorem bytesN_lt : ∀ (n X : Nat), ∀ x ∈ bytesN n X, x < 256
  | 0, X, x, h => by simp [bytesN] at h
  | n + 1, X, x, h => by
    rcases List.mem_cons.1 h with rfl | h
    · omega
    · exact bytesN_lt n _ x h

theorem turn_loop (l : List Nat) (hl : ∀ x ∈ l, x < 256) (hlen : l.length ≤ 100000) (a m : Nat) (ha : a ≤ 1000000) (hm : m < 4294967296) : ∀ (d i : Nat), i + d = 32 →
    Loop (fun s : (Int × (List Int)) => F_retraceref02_Turned_L3 (a : Int) (m : Int) s.1 s.2) ((i : Int), toI (xorL l (bytesN l.length (m % 2 ^ i * 2 ^ a)))) = some (strOfNums (toI (xorL l (bytesN l.length (m * 2 ^ a))))) := by
  intro d
  induction d with
  | zero =>
    intro i hi
    have : i = 32 := by omega
    subst this
    rw [Nat.mod_eq_of_lt (by simpa using hm)]
    refine Loop_inr (step := fun s : (Int × (List Int)) => F_retraceref02_Turned_L3 (a : Int) (m : Int) s.1 s.2) (s := (((32 : Nat) : Int), _)) ?_
    show F_retraceref02_Turned_L3 (a : Int) (m : Int) ((32 : Nat) : Int) _ = _
    unfold F_retraceref02_Turned_L3
    rfl
  | succ d ih =>
    intro i hi
    have hM : m % 2 ^ i < 2 ^ i := Nat.mod_lt _ (Nat.two_pow_pos _)
    have hs : F_retraceref02_Turned_L3 (a : Int) (m : Int) (i : Int) (toI (xorL l (bytesN l.length (m % 2 ^ i * 2 ^ a)))) = some (.inl (((i + 1 : Nat) : Int), toI (xorL l (bytesN l.length (m % 2 ^ (i + 1) * 2 ^ a))))) := by
      unfold F_retraceref02_Turned_L3
      have e1 : decide ((i : Int) < 32) = true := by simp; omega
      have ei : wu64 (i : Int) = (i : Int) := by rw [wu64]; show IntKind.u64.wrap _ = _; simp [IntKind.wrap, IntKind.bits, IntKind.signed]; omega
      have emin : min (Int.toNat (i : Int)) 32 = i := by omega
      have ediv : Int.fdiv (m : Int) (2 ^ i) = ((m / 2 ^ i : Nat) : Int) := by
        rw [Int.fdiv_eq_ediv_of_nonneg _ (Int.le_of_lt (Int.pow_pos (by decide)))]
        have : ((2 : Int) ^ i) = ((2 ^ i : Nat) : Int) := by simp
        rw [this]; rfl
      have hmd : m / 2 ^ i < 4294967296 := Nat.lt_of_le_of_lt (Nat.div_le_self _ _) hm
      have ebit : bits .and .u32 ((m / 2 ^ i : Nat) : Int) 1 = ((m / 2 ^ i % 2 : Nat) : Int) := by
        have := bits_mask .u32 32 (by decide) (fun n h0 h1 => by rw [IntKind.wrap_u32]; omega) 1 (by decide) ((m / 2 ^ i : Nat) : Int) (Int.natCast_nonneg _) (by exact_mod_cast hmd)
        have e : ((2 : Int) ^ 1 - 1) = 1 := by decide
        rw [e] at this
        rw [this]; rfl
      have eat : w64 ((a : Int) + (i : Int)) = ((a + i : Nat) : Int) := by rw [xr_w64 (by omega) (by omega)]; simp
      have e8 : w64 (8 * ((toI (xorL l (bytesN l.length (m % 2 ^ i * 2 ^ a)))).length : Int)) = 8 * (l.length : Int) := by
        rw [toI_len, xorL_len (bytesN_len _ _).symm, xr_w64 (by omega) (by omega)]
      have ei1 : w64 ((i : Int) + 1) = ((i + 1 : Nat) : Int) := by rw [xr_w64 (by omega) (by omega)]; simp
      have same : ∀ b : Bool, b = false → xorL l (bytesN l.length (m % 2 ^ i * 2 ^ a)) = xorL l (bytesN l.length (m % 2 ^ (i + 1) * 2 ^ a)) → F_retraceref02_Turned_J2 (a : Int) (i : Int) (toI (xorL l (bytesN l.length (m % 2 ^ i * 2 ^ a)))) b = some (.inl (((i + 1 : Nat) : Int), toI (xorL l (bytesN l.length (m % 2 ^ (i + 1) * 2 ^ a))))) := by
        intro b hb he
        subst hb
        unfold F_retraceref02_Turned_J2 F_retraceref02_Turned_J1
        rw [cond_false, ei1, he]
      rw [e1, cond_true, ei]
      unfold grd
      rw [if_pos (by omega), emin, ediv, ebit]
      by_cases hb : m / 2 ^ i % 2 = 1
      · have hmb : m % 2 ^ (i + 1) = m % 2 ^ i + 2 ^ i := by rw [mod_bit, if_pos hb]
        rw [hb]
        rw [show (((1 : Nat) : Int) == 1) = true from rfl, cond_true, eat, decide_eq_true (show (0 : Int) ≤ ((a + i : Nat) : Int) by omega), cond_true, e8]
        by_cases hr : (a + i) / 8 < l.length
        · have hd : decide (((a + i : Nat) : Int) < 8 * (l.length : Int)) = true := by
            apply decide_eq_true; omega
          rw [hd]
          have hxl : (a + i) / 8 < (xorL l (bytesN l.length (m % 2 ^ i * 2 ^ a))).length := by rw [xorL_len (bytesN_len _ _).symm]; exact hr
          have hx := List.getElem?_eq_getElem hxl
          have hx256 := xorL_lt hl (bytesN_lt _ _) _ (List.getElem_mem hxl)
          have eq8 : w64 (Int.tdiv ((a + i : Nat) : Int) 8) = (((a + i) / 8 : Nat) : Int) := by
            rw [Int.tdiv_eq_ediv_of_nonneg (by omega), xr_w64 (by omega) (by omega)]; omega
          have em8 : Int.tmod ((a + i : Nat) : Int) 8 = (((a + i) % 8 : Nat) : Int) := by
            rw [Int.tmod_eq_emod_of_nonneg (by omega)]; omega
          have em8' : wu64 (((a + i) % 8 : Nat) : Int) = (((a + i) % 8 : Nat) : Int) := by
            rw [wu64]; simp [IntKind.wrap, IntKind.bits, IntKind.signed]; omega
          have elat : lAt (toI (xorL l (bytesN l.length (m % 2 ^ i * 2 ^ a)))) (((a + i) / 8 : Nat) : Int) = some (((xorL l (bytesN l.length (m % 2 ^ i * 2 ^ a)))[(a + i) / 8] : Nat) : Int) := by
            rw [lAt_nat]
            unfold toI
            rw [List.getElem?_map, hx]; rfl
          unfold F_retraceref02_Turned_J2 F_retraceref02_Turned_J1
          rw [cond_true, eat, eq8, em8, elat]
          simp only [Option.bind_some]
          unfold grd
          rw [if_pos (by rw [em8']; omega), if_pos (by rw [toI_len]; omega), ei1, pow8 _ (by omega), Int.toNat_natCast]
          rw [u8x _ _ hx256 (by
            have : 2 ^ ((a + i) % 8) ≤ 2 ^ 7 := Nat.pow_le_pow_right (by decide) (by omega)
            omega), toI_set, turn_bit hM hr _ hx, hmb]
        · have hd : decide (((a + i : Nat) : Int) < 8 * (l.length : Int)) = false := by
            apply decide_eq_false; omega
          exact same _ hd (by rw [hmb]; exact turn_out hM (by omega))
      · have hb0 : m / 2 ^ i % 2 = 0 := by omega
        have hmb : m % 2 ^ (i + 1) = m % 2 ^ i := by rw [mod_bit, if_neg hb, Nat.add_zero]
        rw [hb0]
        rw [show (((0 : Nat) : Int) == 1) = false from rfl, cond_false]
        exact same _ rfl (by rw [hmb])
    rw [Loop_inl (step := fun s : (Int × (List Int)) => F_retraceref02_Turned_L3 (a : Int) (m : Int) s.1 s.2) (s := ((i : Int), toI (xorL l (bytesN l.length (m % 2 ^ i * 2 ^ a))))) hs]
    exact ih (i + 1) (by omega)

/-- The string with those bits turned. -/
def turnS (s : ByteArray) (a m : Nat) : ByteArray := strOfNums (toI (xorL (nB s) (bytesN s.size (m * 2 ^ a))))
theorem F_turned (s : ByteArray) (a m : Nat) (hs : s.size ≤ 100000) (ha : a ≤ 1000000) (hm : m < 4294967296) : F_retraceref02_Turned s (a : Int) (m : Int) = some (turnS s a m) := by
  unfold F_retraceref02_Turned grd
  rw [if_pos (by omega)]
  have h := turn_loop (nB s) (fun x hx => nB_mem hx) (by rw [nB_len]; exact hs) a m ha hm 32 0 rfl
  have e0 : m % 2 ^ 0 * 2 ^ a = 0 := by simp [Nat.mod_one]
  rw [e0, bytesN_zero, xorL_zero] at h
  rw [sB_nB]
  unfold turnS
  rw [nB_len] at h
  exact h
theorem nB_turn (s : ByteArray) (a m : Nat) : nB (turnS s a m) = xorL (nB s) (bytesN s.size (m * 2 ^ a)) := by
  have h : sB (turnS s a m) = toI (xorL (nB s) (bytesN s.size (m * 2 ^ a))) := by
    unfold turnS
    refine sB_num ?_
    intro x hx
    unfold toI at hx
    obtain ⟨y, hy, rfl⟩ := List.mem_map.1 hx
    have := xorL_lt (fun x hx => nB_mem hx) (bytesN_lt _ _) y hy
    omega
  rw [sB_nB] at h
  unfold toI at h
  exact cast_inj h
theorem nB_inj {a b : ByteArray} (h : nB a = nB b) : a = b := by
  apply sB_inj
  rw [sB_nB, sB_nB, h]
theorem turn_size (s : ByteArray) (a m : Nat) : (turnS s a m).size = s.size := by
  rw [← nB_len, nB_turn, xorL_len (by rw [bytesN_len, nB_len]), nB_len]

theorem turn_none {s : ByteArray} {a m : Nat} (hm : m < 4294967296) (h : crcL 0 (bytesN s.size (m * 2 ^ a)) = 0) : turnS s a m = s := by
  apply nB_inj
  rw [nB_turn, burst hm h, bytesN_zero, ← nB_len s, xorL_zero]

theorem crc_turn (s : ByteArray) (a m c : Nat) : crcL c (nB (turnS s a m)) = crcL c (nB s) ^^^ crcL 0 (bytesN s.size (m * 2 ^ a)) := by
  rw [nB_turn, ← crcL_lin _ _ _ _ (by rw [bytesN_len, nB_len]), Nat.xor_zero]
theorem xor_canL {a b : Nat} (h : a ^^^ b = a) : b = 0 := by
  have := congrArg (a ^^^ ·) h
  simp only [← Nat.xor_assoc, Nat.xor_self, Nat.zero_xor] at this
  exact this

theorem sum_turn (s : ByteArray) (a m : Nat) (hm : m < 4294967296) : moreN 0 (turnS s a m) = moreN 0 s ↔ turnS s a m = s := by
  constructor
  · intro h
    unfold moreN at h
    have h2 := congrArg (· ^^^ 4294967295) h
    simp only [xor_xor] at h2
    rw [crc_turn] at h2
    exact turn_none hm (xor_canL h2)
  · intro h; rw [h]

theorem nB_le (c : Nat) (hc : c < 4294967296) : nB (strOfNums (leN c)) = bytesN 4 c := by
  have h : sB (strOfNums (leN c)) = leN c := sB_num (by
    intro x hx
    simp [leN] at hx
    omega)
  rw [sB_nB] at h
  have e : leN c = (bytesN 4 c).map fun n : Nat => (n : Int) := by
    simp [leN, bytesN, Nat.div_div_eq_div_mul]
  exact cast_inj (h.trans e)

/-- What a sealed string comes to. -/
theorem seal_sum (b : ByteArray) (t : ByteArray) (ht : t = strOfNums (leN (moreN 0 b))) : crcL 4294967295 (nB b ++ nB t) = stN 32 4294967295 := by
  have hc := crcL_lt (nB b) (c := 4294967295) (by decide) (fun x hx => nB_mem hx)
  rw [ht, nB_le _ (moreN_lt (by decide) b), crcL_app, crcL_bytes 4 _ _ (moreN_lt (by decide) b)]
  unfold moreN
  rw [Nat.zero_xor, ← Nat.xor_assoc, Nat.xor_self, Nat.zero_xor]

theorem open_seal (s : ByteArray) : openV (s ++ strOfNums (leN (moreN 0 s))) = (s, 0) := by
  have hsz : (s ++ strOfNums (leN (moreN 0 s))).size = s.size + 4 := by rw [ByteArray.size_append, leN_size]
  unfold openV
  have e1 : (s ++ strOfNums (leN (moreN 0 s))).extract 0 (s.size + 4 - 4) = s := by
    apply sB_inj
    rw [sB_cut, sB_app, List.drop_zero, show s.size + 4 - 4 = s.size by omega, ← sB_len s, List.take_left']
    rfl
  have e2 : (s ++ strOfNums (leN (moreN 0 s))).extract (s.size + 4 - 4) (s.size + 4) = strOfNums (leN (moreN 0 s)) := by
    apply sB_inj
    rw [sB_cut, sB_app, List.take_of_length_le (by rw [List.length_append, sB_len, sB_len, leN_size]; omega), show s.size + 4 - 4 = s.size by omega, ← sB_len s, List.drop_left']
    rfl
  rw [hsz, if_neg (by omega), e1, e2, if_pos rfl]

theorem open_turn (s : ByteArray) (a m : Nat) (hm : m < 4294967296) : (openV (turnS (s ++ strOfNums (leN (moreN 0 s))) a m)).2 = 0 ↔ turnS (s ++ strOfNums (leN (moreN 0 s))) a m = s ++ strOfNums (leN (moreN 0 s)) := by
  have hsz : (s ++ strOfNums (leN (moreN 0 s))).size = s.size + 4 := by rw [ByteArray.size_append, leN_size]
  constructor
  · intro h
    have hsz2 := turn_size (s ++ strOfNums (leN (moreN 0 s))) a m
    generalize hy : turnS (s ++ strOfNums (leN (moreN 0 s))) a m = y at h hsz2
    unfold openV at h
    rw [if_neg (by omega)] at h
    split at h
    · rename_i hq
      have hcat : nB y = nB (y.extract 0 (y.size - 4)) ++ nB (y.extract (y.size - 4) y.size) := by
        have hI : sB y = sB (y.extract 0 (y.size - 4)) ++ sB (y.extract (y.size - 4) y.size) := by
          rw [sB_cut, sB_cut, List.drop_zero, List.take_of_length_le (l := sB y) (i := y.size) (by rw [sB_len]; omega), List.take_append_drop]
        rw [sB_nB, sB_nB, sB_nB, ← List.map_append] at hI
        exact cast_inj hI
      have k1 := seal_sum (y.extract 0 (y.size - 4)) _ hq.symm
      rw [← hcat] at k1
      have k2 := seal_sum s _ rfl
      rw [← nB_app] at k2
      rw [← hy, crc_turn, k2] at k1
      rw [← hy]
      exact turn_none hm (xor_canL k1)
    · simp at h
  · intro h
    rw [h, open_seal]
end Go.Ab
