import Derived.Test.YtdcgabaobopjpaaGD
import Derived.Test.YtdcgabaobopjpaaAbStr
namespace Go.Ab
set_option linter.unusedVariables false

theorem wu32_of {n : Int} (h0 : 0 ≤ n) (h1 : n < 4294967296) : wu32 n = n := by rw [wu32, IntKind.wrap_u32]; omega
theorem wu32_mod (n : Int) : wu32 n = n % 4294967296 := by rw [wu32, IntKind.wrap_u32]
theorem xr_w64 {n : Int} (h0 : -9223372036854775808 ≤ n) (h1 : n ≤ 9223372036854775807) : w64 n = n := by rw [w64, IntKind.wrap_i64]; omega
theorem xr_wu8 (n : Int) : wu8 n = n % 256 := by rw [wu8, IntKind.wrap_u8]

/-- One bit. -/
def st1 (c : Nat) : Nat := c / 2 ^^^ (if c % 2 = 1 then 3988292384 else 0)
def stN : Nat → Nat → Nat
  | 0, c => c
  | n + 1, c => stN n (st1 c)
def crcL : Nat → List Nat → Nat
  | c, [] => c
  | c, b :: l => crcL (stN 8 (c ^^^ b)) l
def nB (s : ByteArray) : List Nat := s.data.toList.map UInt8.toNat
theorem sB_nB (s : ByteArray) : sB s = (nB s).map (fun n : Nat => (n : Int)) := by simp [sB, nB]
theorem nB_mem {s : ByteArray} {b : Nat} (h : b ∈ nB s) : b < 256 := by
  simp only [nB, List.mem_map] at h
  obtain ⟨x, _, rfl⟩ := h
  exact x.toNat_lt
theorem nB_len (s : ByteArray) : (nB s).length = s.size := by simp [nB]
theorem nB_app (a b : ByteArray) : nB (a ++ b) = nB a ++ nB b := by simp [nB]

theorem st1_lt {c : Nat} (h : c < 4294967296) : st1 c < 4294967296 := by
  unfold st1
  refine Nat.xor_lt_two_pow (n := 32) (by omega) ?_
  split <;> decide
theorem stN_lt : ∀ (n : Nat) {c : Nat}, c < 4294967296 → stN n c < 4294967296
  | 0, c, h => h
  | n + 1, c, h => stN_lt n (st1_lt h)
theorem xor_lt {a b : Nat} (ha : a < 4294967296) (hb : b < 4294967296) : a ^^^ b < 4294967296 := Nat.xor_lt_two_pow (n := 32) ha hb
theorem crcL_lt : ∀ (l : List Nat) {c : Nat}, c < 4294967296 → (∀ b ∈ l, b < 256) → crcL c l < 4294967296
  | [], c, h, _ => h
  | b :: l, c, h, hl => crcL_lt l (stN_lt 8 (xor_lt h (by have := hl b (by simp); omega))) (fun x hx => hl x (by simp [hx]))

theorem xor4 (a b c d : Nat) : (a ^^^ b) ^^^ (c ^^^ d) = (a ^^^ c) ^^^ (b ^^^ d) := by
  rw [Nat.xor_assoc, Nat.xor_assoc, ← Nat.xor_assoc b, ← Nat.xor_assoc c, Nat.xor_comm b c]
theorem st1_xor (a b : Nat) : st1 (a ^^^ b) = st1 a ^^^ st1 b := by
  unfold st1
  rw [xor4, Nat.xor_div_two]
  congr 1
  have h := Nat.testBit_xor (x := a) (y := b) (i := 0)
  simp only [Nat.testBit_zero] at h
  by_cases ha : a % 2 = 1 <;> by_cases hb : b % 2 = 1 <;> simp [ha, hb] at h <;> simp [ha, hb]
theorem stN_xor : ∀ (n a b : Nat), stN n (a ^^^ b) = stN n a ^^^ stN n b
  | 0, _, _ => rfl
  | n + 1, a, b => by simp only [stN]; rw [st1_xor, stN_xor n]
theorem st1_even {c : Nat} : st1 (2 * c) = c := by
  unfold st1
  have h1 : 2 * c / 2 = c := by omega
  have h2 : ¬ 2 * c % 2 = 1 := by omega
  rw [h1, if_neg h2, Nat.xor_zero]
theorem stN_pow : ∀ (n c : Nat), stN n (2 ^ n * c) = c
  | 0, c => by simp [stN]
  | n + 1, c => by
    have : 2 ^ (n + 1) * c = 2 * (2 ^ n * c) := by rw [Nat.pow_succ, Nat.mul_comm (2 ^ n) 2, Nat.mul_assoc]
    simp only [stN]
    rw [this, st1_even, stN_pow n]

/-- A byte at a time. -/
theorem st8_table {c b : Nat} (hb : b < 256) : stN 8 (c ^^^ b) = stN 8 ((c % 256) ^^^ b) ^^^ (c / 256) := by
  have h : c = 2 ^ 8 * (c / 256) ^^^ (c % 256) := by
    have e := Nat.two_pow_add_eq_or_of_lt (i := 8) (b := c % 256) (by omega) (c / 256)
    have e2 : 2 ^ 8 * (c / 256) ^^^ (c % 256) = 2 ^ 8 * (c / 256) ||| (c % 256) := by
      apply Nat.eq_of_testBit_eq
      intro i
      rw [Nat.testBit_xor, Nat.testBit_or, Nat.testBit_two_pow_mul]
      by_cases hi : i < 8
      · simp [Nat.not_le.2 hi]
      · have : (c % 256).testBit i = false := Nat.testBit_lt_two_pow (Nat.lt_of_lt_of_le (by omega : c % 256 < 2 ^ 8) (Nat.pow_le_pow_right (by decide) (by omega)))
        simp [this]
    rw [e2, ← e]; omega
  conv => lhs; rw [h]
  rw [Nat.xor_assoc, stN_xor, stN_pow, Nat.xor_comm]

theorem u32x (a b : Nat) (ha : a < 4294967296) (hb : b < 4294967296) : bits .xor .u32 (a : Int) (b : Int) = ((a ^^^ b : Nat) : Int) := Go.u32_xor_nat a b ha hb
theorem u8x (a b : Nat) (ha : a < 256) (hb : b < 256) : bits .xor .u8 (a : Int) (b : Int) = ((a ^^^ b : Nat) : Int) := Go.u8_xor_nat a b ha hb

def J_push (k x : Int) : Option ((Int × Int) ⊕ Int) := some (.inl (x, w64 (k + 1)))
def J_table (i : Int) (t : List Int) (x : Int) : Option ((Int × (List Int)) ⊕ (List Int)) := grd ((0 : Int) ≤ i ∧ i < 256 ∧ Int.toNat i < t.length) <| some (.inl ((w64 (i + 1)), (List.set t (Int.toNat i) x)))
/-- The reference. -/
theorem push_inner (k : Int) : ∀ (d : Nat) (c : Nat) (j : Nat), c < 4294967296 → j + d = 8 → Loop (fun s : (Int × Int) => F_retraceref02_push_L2 k s.1 s.2) ((c : Int), (j : Int)) = J_push k ((stN d c : Nat) : Int) := by
  intro d
  induction d with
  | zero =>
    intro c j hc hj
    have : j = 8 := by omega
    subst this
    refine (Loop_inr (step := fun s : (Int × Int) => F_retraceref02_push_L2 k s.1 s.2) (s := ((c : Int), ((8 : Nat) : Int))) (r := .inl ((c : Int), w64 (k + 1))) ?_).trans ?_
    · show F_retraceref02_push_L2 k (c : Int) ((8 : Nat) : Int) = _
      unfold F_retraceref02_push_L2
      rfl
    · rfl
  | succ d ih =>
    intro c j hc hj
    have hs : F_retraceref02_push_L2 k (c : Int) (j : Int) = some (.inl (((st1 c : Nat) : Int), ((j + 1 : Nat) : Int))) := by
      unfold F_retraceref02_push_L2
      have e1 : decide ((j : Int) < 8) = true := by simp; omega
      have e2 : Int.tmod (c : Int) 2 = ((c % 2 : Nat) : Int) := by rw [Int.tmod_eq_emod_of_nonneg (by omega)]; omega
      have e3 : wu32 (Int.tdiv (c : Int) 2) = ((c / 2 : Nat) : Int) := by rw [Int.tdiv_eq_ediv_of_nonneg (by omega), wu32_of (by omega) (by omega)]; omega
      have e4 : w64 ((j : Int) + 1) = ((j + 1 : Nat) : Int) := by rw [xr_w64 (by omega) (by omega)]; simp
      rw [e1, cond_true, e2, e3]
      unfold F_retraceref02_push_J1 st1
      rw [e4]
      by_cases h : c % 2 = 1
      · have : (((c % 2 : Nat) : Int) == 1) = true := by simp; omega
        rw [this, cond_true, if_pos h, ← u32x _ _ (by omega) (by decide)]
        rfl
      · have : (((c % 2 : Nat) : Int) == 1) = false := by simp; omega
        rw [this, cond_false, if_neg h, Nat.xor_zero]
    rw [Loop_inl (step := fun s : (Int × Int) => F_retraceref02_push_L2 k s.1 s.2) (s := ((c : Int), (j : Int))) hs, ih (st1 c) (j + 1) (st1_lt hc) (by omega)]
    rfl

theorem push_loop (s : ByteArray) (hs : s.size ≤ 1000000) : ∀ (l : List Nat) (c i : Nat), c < 4294967296 → (nB s).drop i = l → i ≤ s.size → Loop (fun q : (Int × Int) => F_retraceref02_push_L3 s q.1 q.2) ((c : Int), (i : Int)) = some ((crcL c l : Nat) : Int) := by
  intro l
  induction l with
  | nil =>
    intro c i hc hd hi
    have hge : s.size ≤ i := by rw [← nB_len s]; exact List.drop_eq_nil_iff.1 hd
    refine Loop_inr (step := fun q : (Int × Int) => F_retraceref02_push_L3 s q.1 q.2) (s := ((c : Int), (i : Int))) ?_
    show F_retraceref02_push_L3 s (c : Int) (i : Int) = _
    unfold F_retraceref02_push_L3
    have : decide ((i : Int) < (s.size : Int)) = false := by simp; omega
    rw [this]
    rfl
  | cons b l ih =>
    intro c i hc hd hi
    have hb : (nB s)[i]? = some b := by
      have := congrArg (fun q => q[0]?) hd
      simpa using this
    have hlt : i < s.size := by rw [← nB_len s]; exact lt_of_getL hb
    have hb2 : b < 256 := nB_mem (List.mem_of_getElem? hb)
    have hat : sAt s (i : Int) = some (b : Int) := by
      rw [sAt_eq, lAt_nat, sB_nB, List.getElem?_map, hb]; rfl
    have hstep : F_retraceref02_push_L3 s (c : Int) (i : Int) = some (.inl (((stN 8 (c ^^^ b) : Nat) : Int), ((i + 1 : Nat) : Int))) := by
      unfold F_retraceref02_push_L3
      have : decide ((i : Int) < (s.size : Int)) = true := by simp; omega
      rw [this, cond_true, hat]
      simp only [Option.bind_some]
      rw [wu32_of (by omega) (by omega), u32x _ _ hc (by omega)]
      have := push_inner (i : Int) 8 (c ^^^ b) 0 (xor_lt hc (by omega)) rfl
      rw [show ((0 : Nat) : Int) = 0 from rfl] at this
      rw [this]
      unfold J_push
      rw [xr_w64 (by omega) (by omega)]
      simp
    rw [Loop_inl (step := fun q : (Int × Int) => F_retraceref02_push_L3 s q.1 q.2) (s := ((c : Int), (i : Int))) hstep, ih _ (i + 1) (stN_lt 8 (xor_lt hc (by omega))) (by rw [← List.drop_drop, hd]; rfl) (by omega)]
    rfl
theorem F_push (c : Nat) (hc : c < 4294967296) (s : ByteArray) (hs : s.size ≤ 1000000) : F_retraceref02_push (c : Int) s = some ((crcL c (nB s) : Nat) : Int) := by
  unfold F_retraceref02_push
  exact push_loop s hs (nB s) c 0 hc rfl (by omega)

/-- The table. -/
theorem st1_and (c : Nat) (hc : c < 4294967296) : bits .xor .u32 (Int.fdiv (c : Int) 2) (bits .and .u32 3988292384 (wu32 (0 - (bits .and .u32 (c : Int) 1)))) = ((st1 c : Nat) : Int) := by
  have hm : bits .and .u32 (c : Int) 1 = ((c % 2 : Nat) : Int) := by
    have := bits_mask .u32 32 (by decide) (fun n h0 h1 => by rw [IntKind.wrap_u32]; omega) 1 (by decide) (c : Int) (by omega) (by omega)
    have e : ((2 : Int) ^ 1 - 1) = 1 := by decide
    rw [e] at this
    rw [this]; omega
  have hd : Int.fdiv (c : Int) 2 = ((c / 2 : Nat) : Int) := by rw [Int.fdiv_eq_ediv_of_nonneg _ (by decide)]; omega
  rw [hm, hd]
  unfold st1
  rcases Nat.mod_two_eq_zero_or_one c with h | h
  · rw [h, if_neg (by decide)]
    have : bits .and .u32 3988292384 (wu32 (0 - ((0 : Nat) : Int))) = ((0 : Nat) : Int) := by decide
    rw [this, u32x _ _ (by omega) (by decide)]
  · rw [h, if_pos rfl]
    have : bits .and .u32 3988292384 (wu32 (0 - ((1 : Nat) : Int))) = ((3988292384 : Nat) : Int) := by decide
    rw [this, u32x _ _ (by omega) (by decide)]

theorem table_inner (i : Int) (t : List Int) : ∀ (d c j : Nat), c < 4294967296 → j + d = 8 → ∀ r, J_table i t ((stN d c : Nat) : Int) = some r → Loop (fun s : (Int × Int) => F_crc_table_L1 i t s.1 s.2) ((c : Int), (j : Int)) = some r := by
  intro d
  induction d with
  | zero =>
    intro c j hc hj r hr
    have : j = 8 := by omega
    subst this
    refine Loop_inr (step := fun s : (Int × Int) => F_crc_table_L1 i t s.1 s.2) (s := ((c : Int), ((8 : Nat) : Int))) ?_
    show F_crc_table_L1 i t (c : Int) ((8 : Nat) : Int) = _
    unfold F_crc_table_L1
    rw [show decide (((8 : Nat) : Int) < 8) = false from rfl, cond_false]
    show (J_table i t (c : Int)).map Sum.inr = _
    rw [show J_table i t (c : Int) = some r from hr]
    rfl
  | succ d ih =>
    intro c j hc hj r hr
    have hs : F_crc_table_L1 i t (c : Int) (j : Int) = some (.inl (((st1 c : Nat) : Int), ((j + 1 : Nat) : Int))) := by
      unfold F_crc_table_L1
      have e1 : decide ((j : Int) < 8) = true := by simp; omega
      have e4 : w64 ((j : Int) + 1) = ((j + 1 : Nat) : Int) := by rw [xr_w64 (by omega) (by omega)]; simp
      rw [e1, cond_true, st1_and c hc, e4]
    rw [Loop_inl (step := fun s : (Int × Int) => F_crc_table_L1 i t s.1 s.2) (s := ((c : Int), (j : Int))) hs]
    exact ih (st1 c) (j + 1) (st1_lt hc) (by omega) r hr

def tabTo (i : Nat) : List Int := (List.range 256).map fun j => if j < i then ((stN 8 j : Nat) : Int) else 0
theorem tabTo_len (i : Nat) : (tabTo i).length = 256 := by simp [tabTo]
theorem tabTo_set (i : Nat) (h : i < 256) : (tabTo i).set i ((stN 8 i : Nat) : Int) = tabTo (i + 1) := by
  apply List.ext_getElem?
  intro j
  rw [List.getElem?_set]
  by_cases e : i = j
  · subst e
    simp [tabTo, h]
  · simp only [e, if_false]
    unfold tabTo
    simp only [List.getElem?_map]
    cases hq : (List.range 256)[j]? with
    | none => rfl
    | some k =>
      have : k = j := by
        have := List.getElem?_range (n := 256) (i := j)
        have hl := lt_of_getL hq
        simp at hl
        rw [List.getElem?_range hl] at hq
        simpa using hq.symm
      subst this
      simp only [Option.map_some]
      by_cases h1 : k < i
      · rw [if_pos h1, if_pos (by omega)]
      · rw [if_neg h1, if_neg (by omega)]

theorem table_loop : ∀ (d i : Nat), i + d = 256 → Loop (fun s : (Int × (List Int)) => F_crc_table_L2 s.1 s.2) ((i : Int), tabTo i) = some (tabTo 256) := by
  intro d
  induction d with
  | zero =>
    intro i hi
    have : i = 256 := by omega
    subst this
    refine Loop_inr (step := fun s : (Int × (List Int)) => F_crc_table_L2 s.1 s.2) (s := (((256 : Nat) : Int), tabTo 256)) ?_
    show F_crc_table_L2 ((256 : Nat) : Int) (tabTo 256) = _
    unfold F_crc_table_L2
    rw [show decide (((256 : Nat) : Int) < 256) = false from rfl, cond_false]
    unfold grd
    rw [if_pos (tabTo_len _), if_pos ⟨tabTo_len _, List.length_replicate⟩, if_pos (tabTo_len _)]
    rfl
  | succ d ih =>
    intro i hi
    have hs : F_crc_table_L2 (i : Int) (tabTo i) = some (.inl (((i + 1 : Nat) : Int), tabTo (i + 1))) := by
      unfold F_crc_table_L2
      have e1 : decide ((i : Int) < 256) = true := by simp; omega
      rw [e1, cond_true, wu32_of (by omega) (by omega)]
      refine table_inner (i : Int) (tabTo i) 8 i 0 (by omega) rfl _ ?_
      unfold J_table grd
      rw [if_pos ⟨by omega, by omega, by rw [tabTo_len]; omega⟩, Int.toNat_natCast, tabTo_set i (by omega), xr_w64 (by omega) (by omega)]
      simp
    rw [Loop_inl (step := fun s : (Int × (List Int)) => F_crc_table_L2 s.1 s.2) (s := ((i : Int), tabTo i)) hs]
    exact ih (i + 1) (by omega)
theorem tabTo_zero : tabTo 0 = List.replicate 256 0 := by
  apply List.ext_getElem?
  intro j
  rw [List.getElem?_replicate]
  unfold tabTo
  rw [List.getElem?_map]
  by_cases h : j < 256
  · rw [List.getElem?_range h, if_pos h]; rfl
  · rw [List.getElem?_eq_none (by rw [List.length_range]; omega), if_neg h]; rfl
theorem F_table : F_crc_table = some (tabTo 256) := by
  unfold F_crc_table
  rw [← tabTo_zero]
  exact table_loop 256 0 rfl
theorem tab_at (j : Nat) (h : j < 256) : aAt 256 (tabTo 256) (j : Int) = some ((stN 8 j : Nat) : Int) := by
  unfold aAt
  rw [if_pos (by omega), Int.toNat_natCast]
  simp [tabTo, h]

theorem more_loop (s : ByteArray) (hs : s.size ≤ 1000000) : ∀ (l : List Nat) (c i : Nat), c < 4294967296 → (nB s).drop i = l → i ≤ s.size → Loop (fun q : (Int × Int) => F_crc_More_L1 s (tabTo 256) q.1 q.2) ((c : Int), (i : Int)) = some ((crcL c l ^^^ 4294967295 : Nat) : Int) := by
  intro l
  induction l with
  | nil =>
    intro c i hc hd hi
    have hge : s.size ≤ i := by rw [← nB_len s]; exact List.drop_eq_nil_iff.1 hd
    refine Loop_inr (step := fun q : (Int × Int) => F_crc_More_L1 s (tabTo 256) q.1 q.2) (s := ((c : Int), (i : Int))) ?_
    show F_crc_More_L1 s (tabTo 256) (c : Int) (i : Int) = _
    unfold F_crc_More_L1
    have : decide ((i : Int) < ((sB s).length : Int)) = false := by rw [sB_len]; simp; omega
    rw [this, cond_false]
    have e : bits .xor .u32 4294967295 (c : Int) = ((4294967295 ^^^ c : Nat) : Int) := u32x 4294967295 c (by decide) hc
    rw [e, Nat.xor_comm]
    rfl
  | cons b l ih =>
    intro c i hc hd hi
    have hb : (nB s)[i]? = some b := by
      have := congrArg (fun q => q[0]?) hd
      simpa using this
    have hlt : i < s.size := by rw [← nB_len s]; exact lt_of_getL hb
    have hb2 : b < 256 := nB_mem (List.mem_of_getElem? hb)
    have hat : lAt (sB s) (i : Int) = some (b : Int) := by
      rw [lAt_nat, sB_nB, List.getElem?_map, hb]; rfl
    have hx8 : c % 256 ^^^ b < 256 := Nat.xor_lt_two_pow (n := 8) (by omega) hb2
    have hstep : F_crc_More_L1 s (tabTo 256) (c : Int) (i : Int) = some (.inl (((stN 8 (c ^^^ b) : Nat) : Int), ((i + 1 : Nat) : Int))) := by
      unfold F_crc_More_L1
      have : decide ((i : Int) < ((sB s).length : Int)) = true := by rw [sB_len]; simp; omega
      rw [this, cond_true, hat]
      simp only [Option.bind_some]
      have e1 : wu8 (c : Int) = ((c % 256 : Nat) : Int) := by rw [xr_wu8]; omega
      have e2 : Int.fdiv (c : Int) 256 = ((c / 256 : Nat) : Int) := by rw [Int.fdiv_eq_ediv_of_nonneg _ (by decide)]; omega
      rw [e1, u8x _ _ (by omega) hb2, tab_at _ hx8, e2]
      simp only [Option.bind_some]
      rw [u32x _ _ (stN_lt 8 (by omega)) (by omega), ← st8_table hb2, xr_w64 (by omega) (by omega)]
      simp
    rw [Loop_inl (step := fun q : (Int × Int) => F_crc_More_L1 s (tabTo 256) q.1 q.2) (s := ((c : Int), (i : Int))) hstep, ih _ (i + 1) (stN_lt 8 (xor_lt hc (by omega))) (by rw [← List.drop_drop, hd]; rfl) (by omega)]
    rfl

/-- The sum, going on from c. -/
def moreN (c : Nat) (s : ByteArray) : Nat := crcL (c ^^^ 4294967295) (nB s) ^^^ 4294967295
theorem moreN_lt {c : Nat} (hc : c < 4294967296) (s : ByteArray) : moreN c s < 4294967296 := xor_lt (crcL_lt _ (xor_lt hc (by decide)) (fun b hb => nB_mem hb)) (by decide)
theorem F_more (c : Nat) (hc : c < 4294967296) (s : ByteArray) (hs : s.size ≤ 1000000) : F_crc_More (c : Int) s = some ((moreN c s : Nat) : Int) := by
  unfold F_crc_More
  rw [F_table]
  simp only [Option.bind_some]
  unfold grd
  rw [if_pos ⟨tabTo_len _, List.length_replicate⟩, if_pos (by omega)]
  have e : bits .xor .u32 4294967295 (c : Int) = ((c ^^^ 4294967295 : Nat) : Int) := by
    rw [Nat.xor_comm]; exact u32x 4294967295 c (by decide) hc
  rw [e]
  exact more_loop s hs (nB s) _ 0 (xor_lt hc (by decide)) rfl (by omega)
theorem F_sum (s : ByteArray) (hs : s.size ≤ 1000000) : F_crc_Sum s = some ((moreN 0 s : Nat) : Int) := by
  unfold F_crc_Sum
  have := F_more 0 (by decide) s hs
  rw [show ((0 : Nat) : Int) = 0 from rfl] at this
  rw [this]; rfl
theorem F_sumR (s : ByteArray) (hs : s.size ≤ 1000000) : F_retraceref02_Sum s = some ((moreN 0 s : Nat) : Int) := by
  unfold F_retraceref02_Sum
  have := F_push 4294967295 (by decide) s hs
  rw [show ((4294967295 : Nat) : Int) = 4294967295 from rfl] at this
  rw [this]
  simp only [Option.bind_some]
  have e := congrArg some (u32x (crcL 4294967295 (nB s)) 4294967295 (crcL_lt _ (by decide) (fun b hb => nB_mem hb)) (by decide))
  rw [show ((4294967295 : Nat) : Int) = 4294967295 from rfl] at e
  rw [e]
  unfold moreN
  rw [Nat.zero_xor]

def leN (c : Nat) : List Int := [((c % 256 : Nat) : Int), ((c / 256 % 256 : Nat) : Int), ((c / 65536 % 256 : Nat) : Int), ((c / 16777216 % 256 : Nat) : Int)]
theorem F_bytes (c : Nat) (hc : c < 4294967296) : F_crc_Bytes (c : Int) = some (strOfNums (leN c)) := by
  unfold F_crc_Bytes leN
  simp only [xr_wu8, Int.fdiv_eq_ediv_of_nonneg _ (show (0 : Int) ≤ 256 by decide), Int.fdiv_eq_ediv_of_nonneg _ (show (0 : Int) ≤ 65536 by decide), Int.fdiv_eq_ediv_of_nonneg _ (show (0 : Int) ≤ 16777216 by decide)]
  congr 2
theorem F_bytesR (c : Nat) (hc : c < 4294967296) : F_retraceref02_Bytes (c : Int) = some (strOfNums (leN c)) := by
  unfold F_retraceref02_Bytes leN
  have h0 : (0 : Int) ≤ (c : Int) := by omega
  have e1 : wu8 (Int.tmod (c : Int) 256) = ((c % 256 : Nat) : Int) := by rw [Int.tmod_eq_emod_of_nonneg h0, xr_wu8]; omega
  have f1 : wu32 (Int.tdiv (c : Int) 256) = ((c / 256 : Nat) : Int) := by rw [Int.tdiv_eq_ediv_of_nonneg h0, wu32_of (by omega) (by omega)]; omega
  have f2 : wu32 (Int.tdiv (c : Int) 65536) = ((c / 65536 : Nat) : Int) := by rw [Int.tdiv_eq_ediv_of_nonneg h0, wu32_of (by omega) (by omega)]; omega
  have f3 : wu32 (Int.tdiv (c : Int) 16777216) = ((c / 16777216 : Nat) : Int) := by rw [Int.tdiv_eq_ediv_of_nonneg h0, wu32_of (by omega) (by omega)]; omega
  have e2 : wu8 (Int.tmod ((c / 256 : Nat) : Int) 256) = ((c / 256 % 256 : Nat) : Int) := by rw [Int.tmod_eq_emod_of_nonneg (by omega), xr_wu8]; omega
  have e3 : wu8 (Int.tmod ((c / 65536 : Nat) : Int) 256) = ((c / 65536 % 256 : Nat) : Int) := by rw [Int.tmod_eq_emod_of_nonneg (by omega), xr_wu8]; omega
  have e4 : wu8 ((c / 16777216 : Nat) : Int) = ((c / 16777216 % 256 : Nat) : Int) := by rw [xr_wu8]; omega
  rw [e1, f1, f2, f3, e2, e3, e4]
end Go.Ab
