/- The laws of arith, plainly. -/
import Derived.Test.YtilfkpmojnammaaGA
import Derived.Laws.Wrap64
namespace Go.Ab

theorem ar_cong {x y : Int} (h : x % 18446744073709551616 = y % 18446744073709551616) : w64 x = w64 y := by
  rw [w64, w64, IntKind.wrap_i64, IntKind.wrap_i64]; omega
theorem ar_u (n : Int) : wu64 n = n % 18446744073709551616 := by simp [wu64, IntKind.wrap, IntKind.bits, IntKind.signed]
theorem ar_mod (n : Int) : w64 n % 18446744073709551616 = n % 18446744073709551616 := by rw [w64, IntKind.wrap_i64]; omega
theorem ar_id {n : Int} (h0 : -9223372036854775808 ≤ n) (h1 : n ≤ 9223372036854775807) : w64 n = n := by rw [w64, IntKind.wrap_i64]; omega
theorem ar_rng (n : Int) : -9223372036854775808 ≤ w64 n ∧ w64 n ≤ 9223372036854775807 := by rw [w64, IntKind.wrap_i64]; omega

theorem ar_add (a b : Int) : w64 (wu64 (wu64 a + wu64 b)) = w64 (a + b) := by
  apply ar_cong; rw [ar_u, ar_u, ar_u]; omega
theorem ar_sub (a b : Int) : w64 (wu64 (wu64 a - wu64 b)) = w64 (a - b) := by
  apply ar_cong; rw [ar_u, ar_u, ar_u]; omega
theorem ar_mul (a b : Int) : w64 (wu64 (wu64 a * wu64 b)) = w64 (a * b) := by
  apply ar_cong
  rw [ar_u, ar_u, ar_u, Int.emod_emod, ← Int.mul_emod]
theorem ar_mulc (t b : Int) : (w64 t * b) % 18446744073709551616 = (t * b) % 18446744073709551616 := by
  rw [Int.mul_emod, ar_mod, ← Int.mul_emod]

abbrev ar_bi (c : Bool) : Int := cond c 1 0
theorem ar_bit (c : Bool) : F_arith_bit c = some (ar_bi c) := by cases c <;> rfl
theorem ar_rbit (c : Bool) : F_retraceref15_bit c = some (ar_bi c) := by cases c <;> rfl
theorem ar_cmp (a b : Int) : F_arith_compared a b = some (ar_bi (a == b), ar_bi (a != b), ar_bi (decide (a < b)), ar_bi (decide (a ≤ b)), ar_bi (decide (b < a)), ar_bi (decide (b ≤ a)), ar_bi (a != 0 && b != 0), ar_bi (a != 0 || b != 0), ar_bi (a == 0)) := by
  simp only [F_arith_compared, ar_bit, Option.bind_some, F_arith_compared_J1]
  cases (a != 0) <;> rfl

theorem ar_size {a : Int} (h0 : -9223372036854775808 ≤ a) (h1 : a ≤ 9223372036854775807) : F_retraceref15_size a = some (a.natAbs : Int) := by
  unfold F_retraceref15_size
  by_cases h : a < 0
  · simp only [h, decide_true, cond_true]; rw [ar_u, ar_u]; congr 1; omega
  · simp only [h, decide_false, cond_false]; rw [ar_u]; congr 1; omega

theorem ar_tdiv_abs (a b : Int) : a.tdiv b = if (decide (a < 0)) = (decide (b < 0)) then (a.natAbs : Int).tdiv (b.natAbs : Int) else -((a.natAbs : Int).tdiv (b.natAbs : Int)) := by
  by_cases ha : a < 0
  · obtain ⟨x, rfl⟩ : ∃ x : Int, a = -x := ⟨-a, by omega⟩
    have hx : ((-x).natAbs : Int) = x := by omega
    by_cases hb : b < 0
    · obtain ⟨y, rfl⟩ : ∃ y : Int, b = -y := ⟨-b, by omega⟩
      have hy : ((-y).natAbs : Int) = y := by omega
      simp only [ha, hb, hx, hy, if_true, Int.neg_tdiv, Int.tdiv_neg, Int.neg_neg]
    · have hy : (b.natAbs : Int) = b := by omega
      simp only [ha, hb, hx, hy, decide_true, decide_false, Int.neg_tdiv]; simp
  · have hx : (a.natAbs : Int) = a := by omega
    by_cases hb : b < 0
    · obtain ⟨y, rfl⟩ : ∃ y : Int, b = -y := ⟨-b, by omega⟩
      have hy : ((-y).natAbs : Int) = y := by omega
      simp only [ha, hb, hx, hy, decide_true, decide_false, Int.tdiv_neg]; simp
    · have hy : (b.natAbs : Int) = b := by omega
      simp only [ha, hb, hx, hy, if_true]

theorem ar_quot {a b : Int} (h0 : -9223372036854775808 ≤ a) (h1 : a ≤ 9223372036854775807) (g0 : -9223372036854775808 ≤ b) (g1 : b ≤ 9223372036854775807) (hb : b ≠ 0) :
    F_retraceref15_Quotient a b = some (w64 (a.tdiv b)) := by
  unfold F_retraceref15_Quotient
  rw [ar_size h0 h1, ar_size g0 g1]
  simp only [Option.bind_some]
  have hn : (b.natAbs : Int) ≠ 0 := by omega
  simp only [grd, hn, ne_eq, not_false_eq_true, if_true]
  rw [ar_tdiv_abs a b]
  generalize (a.natAbs : Int).tdiv (b.natAbs : Int) = q
  by_cases hs : (decide (a < 0)) = (decide (b < 0))
  · simp only [hs, beq_self_eq_true, Bool.not_true, cond_false, if_true]
    congr 1; apply ar_cong; rw [ar_u]; omega
  · have : ((decide (a < 0)) == (decide (b < 0))) = false := by simpa using hs
    simp only [this, hs, Bool.not_false, cond_true, if_false]
    congr 1; apply ar_cong; rw [ar_u, ar_u]; omega

theorem ar_tmod_abs (a b : Int) (hb : b ≠ 0) : ((a.tmod b).natAbs : Int) < b.natAbs ∧ (0 ≤ a → 0 ≤ a.tmod b) ∧ (a ≤ 0 → a.tmod b ≤ 0) := by
  refine ⟨?_, fun h => Int.tmod_nonneg b h, fun h => ?_⟩
  · have := Int.natAbs_tmod a b
    rw [this]
    have := Nat.mod_lt a.natAbs (show 0 < b.natAbs by omega)
    omega
  · have h2 := Int.tmod_nonneg b (show 0 ≤ -a by omega)
    rw [Int.neg_tmod] at h2
    omega

theorem ar_rem {a b : Int} (g0 : -9223372036854775808 ≤ b) (g1 : b ≤ 9223372036854775807) (hb : b ≠ 0) : w64 (a - w64 (w64 (a.tdiv b) * b)) = a.tmod b := by
  have h1 := ar_tmod_abs a b hb
  have e : a.tmod b = a - a.tdiv b * b := by have := Int.tmod_add_mul_tdiv a b; rw [Int.mul_comm] at this; omega
  rw [← ar_id (n := a.tmod b) (by omega) (by omega)]
  apply ar_cong
  have h2 := ar_mod (w64 (a.tdiv b) * b)
  have h3 := ar_mulc (a.tdiv b) b
  rw [e]
  generalize w64 (w64 (a.tdiv b) * b) = u at *
  generalize w64 (a.tdiv b) * b = v at *
  generalize a.tdiv b * b = z at *
  omega

theorem ar_live : F_retracelaw15_live = some true := by rfl

/-- What a kind makes of two numbers. -/
def ar_val (op a b : Int) : Int × Int :=
  if op = 3 then (w64 (0 - a), 0) else if op = 4 then (ar_bi (a == 0), 0) else if op = 5 then (w64 (a + b), 0) else if op = 6 then (w64 (a - b), 0) else if op = 7 then (w64 (a * b), 0)
  else if op = 8 then (if b = 0 then (0, 1) else (w64 (a.tdiv b), 0)) else if op = 9 then (if b = 0 then (0, 1) else (a.tmod b, 0))
  else if op = 10 then (ar_bi (a == b), 0) else if op = 11 then (ar_bi (a != b), 0) else if op = 12 then (ar_bi (decide (a < b)), 0) else if op = 13 then (ar_bi (decide (a ≤ b)), 0)
  else if op = 14 then (ar_bi (decide (b < a)), 0) else if op = 15 then (ar_bi (decide (b ≤ a)), 0) else if op = 16 then (ar_bi (a != 0 && b != 0), 0) else if op = 17 then (ar_bi (a != 0 || b != 0), 0) else (0, 0)

theorem ar_apply (op a b : Int) : F_arith_Apply op a b = some (ar_val op a b) := by
  unfold F_arith_Apply F_arith_Apply_J1
  rw [ar_cmp]
  simp only [Option.bind_some]
  by_cases h3 : op = 3
  · subst h3; rfl
  by_cases h5 : op = 5
  · subst h5; rfl
  by_cases h6 : op = 6
  · subst h6; rfl
  by_cases h7 : op = 7
  · subst h7; rfl
  by_cases h8 : op = 8
  · subst h8
    by_cases hb : b = 0
    · subst hb; rfl
    · have : (b == 0) = false := by simpa using hb
      simp [ar_val, this, hb, grd]
  by_cases h9 : op = 9
  · subst h9
    by_cases hb : b = 0
    · subst hb; rfl
    · have : (b == 0) = false := by simpa using hb
      simp [ar_val, this, hb, grd]
  have e3 : (op == 3) = false := by simpa using h3
  have e5 : (op == 5) = false := by simpa using h5
  have e6 : (op == 6) = false := by simpa using h6
  have e7 : (op == 7) = false := by simpa using h7
  have e8 : (op == 8) = false := by simpa using h8
  have e9 : (op == 9) = false := by simpa using h9
  simp only [e3, e5, e6, e7, e8, e9, cond_false]
  unfold ar_val
  rw [if_neg h3, if_neg h5, if_neg h6, if_neg h7, if_neg h8, if_neg h9]
  by_cases h4 : op = 4
  · subst h4; rfl
  by_cases h10 : op = 10
  · subst h10; rfl
  by_cases h11 : op = 11
  · subst h11; rfl
  by_cases h12 : op = 12
  · subst h12; rfl
  by_cases h13 : op = 13
  · subst h13; rfl
  by_cases h14 : op = 14
  · subst h14; rfl
  by_cases h15 : op = 15
  · subst h15; rfl
  by_cases h16 : op = 16
  · subst h16; rfl
  by_cases h17 : op = 17
  · subst h17; rfl
  have e4 : (op == 4) = false := by simpa using h4
  have e10 : (op == 10) = false := by simpa using h10
  have e11 : (op == 11) = false := by simpa using h11
  have e12 : (op == 12) = false := by simpa using h12
  have e13 : (op == 13) = false := by simpa using h13
  have e14 : (op == 14) = false := by simpa using h14
  have e15 : (op == 15) = false := by simpa using h15
  have e16 : (op == 16) = false := by simpa using h16
  have e17 : (op == 17) = false := by simpa using h17
  simp only [e4, e10, e11, e12, e13, e14, e15, e16, e17, cond_false]
  rw [if_neg h4, if_neg h10, if_neg h11, if_neg h12, if_neg h13, if_neg h14, if_neg h15, if_neg h16, if_neg h17]

theorem ar_ref (op a b : Int) (h0 : -9223372036854775808 ≤ a) (h1 : a ≤ 9223372036854775807) (g0 : -9223372036854775808 ≤ b) (g1 : b ≤ 9223372036854775807) :
    F_retraceref15_Apply op a b = some ⟨(ar_val op a b).1, (ar_val op a b).2⟩ := by
  unfold F_retraceref15_Apply F_retraceref15_Apply_J1
  simp only [ar_rbit, Option.bind_some, F_retraceref15_Apply_J2, F_retraceref15_Apply_J3, F_retraceref15_Apply_J4, F_retraceref15_Apply_J5, ar_add, ar_sub, ar_mul]
  by_cases h3 : op = 3
  · subst h3; rfl
  by_cases h4 : op = 4
  · subst h4; rfl
  by_cases h5 : op = 5
  · subst h5; rfl
  by_cases h6 : op = 6
  · subst h6; rfl
  by_cases h7 : op = 7
  · subst h7; rfl
  by_cases h8 : op = 8
  · subst h8
    by_cases hb : b = 0
    · subst hb; rfl
    · have : (b == 0) = false := by simpa using hb
      simp [ar_val, this, hb, ar_quot h0 h1 g0 g1 hb]
  by_cases h9 : op = 9
  · subst h9
    by_cases hb : b = 0
    · subst hb; rfl
    · have : (b == 0) = false := by simpa using hb
      simp [ar_val, this, hb, ar_quot h0 h1 g0 g1 hb, ar_rem g0 g1 hb]
  have e3 : (op == 3) = false := by simpa using h3
  have e4 : (op == 4) = false := by simpa using h4
  have e5 : (op == 5) = false := by simpa using h5
  have e6 : (op == 6) = false := by simpa using h6
  have e7 : (op == 7) = false := by simpa using h7
  have e8 : (op == 8) = false := by simpa using h8
  have e9 : (op == 9) = false := by simpa using h9
  simp only [e3, e4, e5, e6, e7, e8, e9, cond_false]
  unfold ar_val
  rw [if_neg h3, if_neg h4, if_neg h5, if_neg h6, if_neg h7, if_neg h8, if_neg h9]
  have tri : (decide (a ≤ b)) = (decide (a < b) || (a == b)) := by
    by_cases h : a < b
    · simp [h, Int.le_of_lt h]
    · by_cases h2 : a = b
      · subst h2; simp
      · have : ¬ a ≤ b := by omega
        simp [h, h2, this]
  have tri2 : (decide (b < a)) = (!(decide (a < b)) && !(a == b)) := by
    by_cases h : a < b
    · have : ¬ b < a := by omega
      simp [h, this]
    · by_cases h2 : a = b
      · subst h2; simp
      · have : b < a := by omega
        simp [h, h2, this]
  have tri3 : (decide (b ≤ a)) = (!(decide (a < b))) := by
    by_cases h : a < b
    · have : ¬ b ≤ a := by omega
      simp [h, this]
    · have : b ≤ a := by omega
      simp [h, this]
  have ne1 : (a != b) = !(a == b) := rfl
  rw [tri, tri2, tri3, ne1]
  by_cases h10 : op = 10
  · subst h10; rfl
  by_cases h11 : op = 11
  · subst h11; rfl
  by_cases h12 : op = 12
  · subst h12; rfl
  by_cases h13 : op = 13
  · subst h13; cases decide (a < b) <;> rfl
  by_cases h14 : op = 14
  · subst h14; cases decide (a < b) <;> rfl
  by_cases h15 : op = 15
  · subst h15; rfl
  by_cases h16 : op = 16
  · subst h16; cases (a != 0) <;> rfl
  by_cases h17 : op = 17
  · subst h17; cases (a != 0) <;> rfl
  have e10 : (op == 10) = false := by simpa using h10
  have e11 : (op == 11) = false := by simpa using h11
  have e12 : (op == 12) = false := by simpa using h12
  have e13 : (op == 13) = false := by simpa using h13
  have e14 : (op == 14) = false := by simpa using h14
  have e15 : (op == 15) = false := by simpa using h15
  have e16 : (op == 16) = false := by simpa using h16
  have e17 : (op == 17) = false := by simpa using h17
  simp only [e10, e11, e12, e13, e14, e15, e16, e17, cond_false]
  rw [if_neg h10, if_neg h11, if_neg h12, if_neg h13, if_neg h14, if_neg h15, if_neg h16, if_neg h17]

theorem ar_wide (op : Int) : ∃ n, F_arith_Wide op = some n ∧ F_retraceref15_Wide op = some n := by
  have e : F_retraceref15_Wide op = F_arith_Wide op := rfl
  rw [e]
  unfold F_arith_Wide F_arith_Wide_J1 F_arith_Wide_J2
  cases (op == 3) <;> cases (op == 4) <;> cases decide (5 ≤ op) <;> cases decide (op ≤ 17) <;> exact ⟨_, rfl, rfl⟩

theorem ar_tells (op a b : Int) (h0 : -9223372036854775808 ≤ a) (h1 : a ≤ 9223372036854775807) (g0 : -9223372036854775808 ≤ b) (g1 : b ≤ 9223372036854775807) : F_retracelaw15_ArithTells op a b = some true := by
  obtain ⟨n, w1, w2⟩ := ar_wide op
  unfold F_retracelaw15_ArithTells
  simp [ar_apply, ar_ref op a b h0 h1 g0 g1, w1, w2, ar_live, F_retracelaw15_ArithTells_J1]

theorem ar_turns (a b : Int) (h0 : -9223372036854775808 ≤ a) (h1 : a ≤ 9223372036854775807) (g0 : -9223372036854775808 ≤ b) (g1 : b ≤ 9223372036854775807) : F_retracelaw15_ArithTurns a b = some true := by
  unfold F_retracelaw15_ArithTurns
  simp only [ar_apply, Option.bind_some, ar_live, F_retracelaw15_ArithTurns_J1]
  have v6 : ar_val 6 a b = (w64 (a - b), 0) := rfl
  have v3 : ar_val 3 b a = (w64 (0 - b), 0) := rfl
  have v5 : ∀ x, ar_val 5 a x = (w64 (a + x), 0) := fun _ => rfl
  have v12 : ar_val 12 a b = (ar_bi (decide (a < b)), 0) := rfl
  have v15 : ar_val 15 a b = (ar_bi (decide (b ≤ a)), 0) := rfl
  have v14 : ar_val 14 b a = (ar_bi (decide (a < b)), 0) := rfl
  have v10 : ar_val 10 a b = (ar_bi (a == b), 0) := rfl
  have v11 : ar_val 11 a b = (ar_bi (a != b), 0) := rfl
  have v4 : ∀ x, ar_val 4 x b = (ar_bi (x == 0), 0) := fun _ => rfl
  simp only [v6, v3, v5, v12, v15, v14, v10, v11, v4]
  have e1 : w64 (a + w64 (0 - b)) = w64 (a - b) := by
    apply ar_cong
    have := ar_mod (0 - b)
    generalize w64 (0 - b) = u at *
    omega
  have ez : (w64 (a - b) == 0) = (a == b) := by
    by_cases h : a = b
    · subst h; rw [Int.sub_self, show (a == a) = true by simp]; rfl
    · have : ¬ w64 (a - b) = 0 := by rw [w64, IntKind.wrap_i64]; omega
      rw [show (w64 (a - b) == 0) = false from beq_eq_false_iff_ne.2 this, show (a == b) = false from beq_eq_false_iff_ne.2 h]
  rw [e1, ez]
  have eu : (w64 (a - b) == w64 (a - b)) = true := by simp
  rw [eu]
  by_cases hlt : a < b
  · have d1 : decide (a < b) = true := by simpa using hlt
    have d2 : decide (b ≤ a) = false := by simp; omega
    have d3 : (a == b) = false := by simp; omega
    have d4 : (a != b) = true := by simp; omega
    rw [d1, d2, d3, d4]; rfl
  · have d1 : decide (a < b) = false := by simp; omega
    have d2 : decide (b ≤ a) = true := by simp; omega
    rw [d1, d2]
    by_cases h3 : a = b
    · have d3 : (a == b) = true := by simpa using h3
      have d4 : (a != b) = false := by simpa using h3
      rw [d3, d4]; rfl
    · have d3 : (a == b) = false := by simpa using h3
      have d4 : (a != b) = true := by simpa using h3
      rw [d3, d4]; rfl

theorem ar_divides (a b : Int) (h0 : -9223372036854775808 ≤ a) (h1 : a ≤ 9223372036854775807) (g0 : -9223372036854775808 ≤ b) (g1 : b ≤ 9223372036854775807) : F_retracelaw15_ArithDivides a b = some true := by
  unfold F_retracelaw15_ArithDivides
  simp only [ar_apply, Option.bind_some, ar_live, F_retracelaw15_ArithDivides_J1]
  by_cases hb : b = 0
  · subst hb; rfl
  have eb : (b == 0) = false := by simpa using hb
  have v8 : ar_val 8 a b = (w64 (a.tdiv b), 0) := by simp [ar_val, hb]
  have v9 : ar_val 9 a b = (a.tmod b, 0) := by simp [ar_val, hb]
  have v7 : ∀ x, ar_val 7 x b = (w64 (x * b), 0) := fun _ => rfl
  have v5 : ∀ x y, ar_val 5 x y = (w64 (x + y), 0) := fun _ _ => rfl
  simp only [eb, cond_false, v8, v9, v7, v5]
  have ht := ar_tmod_abs a b hb
  have es : w64 (w64 (w64 (a.tdiv b) * b) + a.tmod b) = a := by
    have e := ar_rem (a := a) g0 g1 hb
    have h2 := ar_mod (w64 (a.tdiv b) * b)
    have h3 := ar_mulc (a.tdiv b) b
    have e2 : a.tmod b = a - a.tdiv b * b := by have := Int.tmod_add_mul_tdiv a b; rw [Int.mul_comm] at this; omega
    rw [← ar_id (n := a) h0 h1]
    rw [ar_id (n := a) h0 h1]
    have h4 : w64 (w64 (w64 (a.tdiv b) * b) + a.tmod b) = w64 a := by
      apply ar_cong
      rw [e2]
      generalize w64 (w64 (a.tdiv b) * b) = u at *
      generalize w64 (a.tdiv b) * b = v at *
      generalize a.tdiv b * b = z at *
      omega
    rw [h4, ar_id h0 h1]
  have hJ : ∀ x, x = true → (a.tmod b = 0 ∨ decide (a.tmod b < 0) = decide (a < 0)) → F_retracelaw15_ArithDivides_J2 a (w64 (a.tdiv b), 0) (a.tmod b, 0) (w64 (w64 (w64 (a.tdiv b) * b) + a.tmod b), 0) x = some true := by
    intro x hx hs
    subst hx
    unfold F_retracelaw15_ArithDivides_J2
    simp only [es, ar_live, Option.bind_some, F_retracelaw15_ArithDivides_J3, beq_self_eq_true, cond_true]
    rcases hs with hs | hs
    · simp [hs]
    · by_cases hz : a.tmod b = 0
      · simp [hz]
      · have : (a.tmod b == 0) = false := by simpa using hz
        simp [this, hs]
  have hsg : a.tmod b = 0 ∨ decide (a.tmod b < 0) = decide (a < 0) := by
    by_cases hz : a.tmod b = 0
    · exact .inl hz
    · right
      by_cases ha : a < 0
      · have := ht.2.2 (by omega)
        have : a.tmod b < 0 := by omega
        simp [ha, this]
      · have := ht.2.1 (by omega)
        have : ¬ a.tmod b < 0 := by omega
        simp [ha, this]
  have hn : w64 (0 - b) = if b = -9223372036854775808 then b else -b := by
    rw [w64, IntKind.wrap_i64]; split <;> omega
  generalize F_retracelaw15_ArithDivides_J2 a (w64 (a.tdiv b), 0) (a.tmod b, 0) (w64 (w64 (w64 (a.tdiv b) * b) + a.tmod b), 0) = J at hJ ⊢
  generalize a.tmod b = r at *
  by_cases hz : r = 0
  · subst hz; simp [hJ true rfl hsg]
  have ez : (r == 0) = false := by simpa using hz
  by_cases hp : 0 < b
  · have k1 : r < b := by omega
    have k2 : w64 (0 - b) < r := by rw [hn, if_neg (by omega)]; omega
    simp only [ez, hp, k1, k2, decide_true, cond_true, cond_false, hJ true rfl hsg]
  · have hp2 : b < 0 := by omega
    have k1 : b < r := by omega
    by_cases k3 : r < 0
    · simp [ez, hp, hp2, k1, k3, hJ true rfl hsg]
    · by_cases k4 : r < w64 (0 - b)
      · simp only [ez, hp, hp2, k1, k3, k4, decide_true, decide_false, cond_true, cond_false, hJ true rfl hsg]
      · have k5 : w64 (0 - b) = b := by
          rw [hn] at k4 ⊢
          split
          · rfl
          · rename_i hne; rw [if_neg hne] at k4; omega
        have k6 : (w64 (0 - b) == b) = true := by simpa using k5
        simp only [ez, hp, hp2, k1, k3, k4, k6, decide_true, decide_false, cond_true, cond_false, hJ true rfl hsg]
end Go.Ab
