import Derived.Test.YtdcgabaobopjpaaQCrc2
namespace Go.Ab
set_option linter.unusedVariables false

def bytesN : Nat → Nat → List Nat
  | 0, _ => []
  | n + 1, X => X % 256 :: bytesN n (X / 256)
theorem bytesN_len : ∀ (n X : Nat), (bytesN n X).length = n
  | 0, _ => rfl
  | n + 1, X => by simp [bytesN, bytesN_len n]
theorem bytesN_get : ∀ (n X j : Nat), j < n → (bytesN n X)[j]? = some (X / 2 ^ (8 * j) % 256)
  | 0, X, j, h => by omega
  | n + 1, X, 0, h => by simp [bytesN]
  | n + 1, X, j + 1, h => by
    have e : 8 * (j + 1) = 8 + 8 * j := by omega
    simp only [bytesN, List.getElem?_cons_succ]
    rw [bytesN_get n (X / 256) j (by omega), e, Nat.pow_add, ← Nat.div_div_eq_div_mul]
def xorL (l e : List Nat) : List Nat := List.zipWith (· ^^^ ·) l e

theorem crcL_lin : ∀ (l e : List Nat) (c d : Nat), l.length = e.length → crcL (c ^^^ d) (xorL l e) = crcL c l ^^^ crcL d e
  | [], [], c, d, _ => rfl
  | [], _ :: _, _, _, h => by simp at h
  | _ :: _, [], _, _, h => by simp at h
  | x :: l, y :: e, c, d, h => by
    show crcL (stN 8 (c ^^^ d ^^^ (x ^^^ y))) (xorL l e) = crcL (stN 8 (c ^^^ x)) l ^^^ crcL (stN 8 (d ^^^ y)) e
    rw [xor4, stN_xor]
    exact crcL_lin l e _ _ (by simpa using h)
theorem stN_add : ∀ (a b x : Nat), stN (a + b) x = stN b (stN a x)
  | 0, b, x => by simp [stN]
  | a + 1, b, x => by
    rw [show a + 1 + b = (a + b) + 1 by omega]
    exact stN_add a b (st1 x)

theorem st_split (c : Nat) : c = 2 ^ 8 * (c / 256) ^^^ (c % 256) := by
  have e := Nat.two_pow_add_eq_or_of_lt (i := 8) (b := c % 256) (by omega) (c / 256)
  have e2 : 2 ^ 8 * (c / 256) ^^^ (c % 256) = 2 ^ 8 * (c / 256) ||| (c % 256) := by
    apply Nat.eq_of_testBit_eq
    intro i
    rw [Nat.testBit_xor, Nat.testBit_or, Nat.testBit_two_pow_mul]
    by_cases hi : i < 8
    · simp [Nat.not_le.2 hi]
    · have : (c % 256).testBit i = false := Nat.testBit_lt_two_pow (Nat.lt_of_lt_of_le (by omega : c % 256 < 2 ^ 8) (Nat.pow_le_pow_right (by decide) (by omega)))
      simp [this]
  rw [e2, ← e]; omega

theorem crcL_bytes : ∀ (n X c : Nat), X < 2 ^ (8 * n) → crcL c (bytesN n X) = stN (8 * n) (c ^^^ X)
  | 0, X, c, h => by
    have : X = 0 := by simpa using h
    subst this
    simp [bytesN, crcL, stN]
  | n + 1, X, c, h => by
    have h' : X / 256 < 2 ^ (8 * n) := by
      rw [show 8 * (n + 1) = 8 * n + 8 by omega, Nat.pow_add] at h
      exact Nat.div_lt_of_lt_mul (by rw [Nat.mul_comm]; exact h)
    show crcL (stN 8 (c ^^^ X % 256)) (bytesN n (X / 256)) = _
    rw [crcL_bytes n _ _ h', show 8 * (n + 1) = 8 + 8 * n by omega, stN_add]
    congr 1
    have hX : X = X % 256 ^^^ 2 ^ 8 * (X / 256) := by
      have e := st_split X
      rw [Nat.xor_comm]; exact e
    conv => rhs; rw [hX]
    rw [← Nat.xor_assoc, stN_xor 8 (c ^^^ X % 256), stN_pow]

theorem xor_eq0 {a b : Nat} (h : a ^^^ b = 0) : a = b := by
  have := xor_xor a b
  rw [h, Nat.zero_xor] at this
  exact this.symm
theorem st1_ker {c : Nat} (h : c < 4294967296) (h0 : st1 c = 0) : c = 0 := by
  unfold st1 at h0
  have := xor_eq0 h0
  split at this <;> omega
theorem stN_ker : ∀ (n : Nat) {c : Nat}, c < 4294967296 → stN n c = 0 → c = 0
  | 0, c, h, h0 => h0
  | n + 1, c, h, h0 => st1_ker h (stN_ker n (st1_lt h) h0)

/-- A burst that leaves the sum alone is none. -/
theorem burst {n m a : Nat} (hm : m < 4294967296) (h : crcL 0 (bytesN n (m * 2 ^ a)) = 0) : bytesN n (m * 2 ^ a) = bytesN n 0 := by
  have hmod : ∀ (n X : Nat), bytesN n (X % 2 ^ (8 * n)) = bytesN n X := by
    intro n
    induction n with
    | zero => intro X; rfl
    | succ n ih =>
      intro X
      simp only [bytesN]
      have e : 8 * (n + 1) = 8 + 8 * n := by omega
      have p8 : 2 ^ (8 + 8 * n) = 256 * 2 ^ (8 * n) := by rw [Nat.pow_add]
      rw [e, p8, Nat.mod_mul_right_mod, Nat.mod_mul_right_div_self, ih]
  rw [← hmod n (m * 2 ^ a)] at h ⊢
  rw [crcL_bytes n _ 0 (Nat.mod_lt _ (Nat.two_pow_pos _)), Nat.zero_xor] at h
  suffices hz : m * 2 ^ a % 2 ^ (8 * n) = 0 by rw [hz]
  rcases Nat.lt_or_ge a (8 * n) with ha | ha
  · have e : 8 * n = a + (8 * n - a) := by omega
    have e2 : m * 2 ^ a % 2 ^ (8 * n) = 2 ^ a * (m % 2 ^ (8 * n - a)) := by
      rw [e, Nat.pow_add, Nat.mul_comm m, Nat.mul_mod_mul_left]
      congr 3
      omega
    rw [e2] at h ⊢
    rw [e, stN_add, stN_pow] at h
    have hlt : m % 2 ^ (8 * n - a) < 4294967296 := Nat.lt_of_le_of_lt (Nat.mod_le _ _) hm
    have e3 : a + (8 * n - a) - a = 8 * n - a := by omega
    rw [e3] at h
    have := stN_ker _ hlt h
    rw [this]; simp
  · have : 2 ^ (8 * n) ∣ m * 2 ^ a := Nat.dvd_trans (Nat.pow_dvd_pow 2 ha) (Nat.dvd_mul_left _ _)
    exact Nat.mod_eq_zero_of_dvd this

theorem bytesN_zero : ∀ n, bytesN n 0 = List.replicate n 0
  | 0 => rfl
  | n + 1 => by simp [bytesN, bytesN_zero n, List.replicate_succ]
theorem xorL_zero : ∀ (l : List Nat), xorL l (List.replicate l.length 0) = l
  | [] => rfl
  | x :: l => by
    have := xorL_zero l
    unfold xorL at *
    simp [List.replicate_succ, this]
theorem xorL_len {l e : List Nat} (h : l.length = e.length) : (xorL l e).length = l.length := by simp [xorL, h]
end Go.Ab
