/- ProcNews, plainly. -/
import Derived.Test.YtgihgmnmefbjbaaGreatZEnt
import Derived.Test.YtgihgmnmefbjbaaGreatZGoes
namespace Go.Ab
set_option linter.unusedVariables false

theorem isP_goes2 {c : T_api_Code} {p : T_api_Proc} {n : Int} (h1 : fromB p.Def c.Defs.length = true) {y : T_api_Def} (ey : lAt c.Defs p.Def = some y) (h2 : (p.Vars.length : Int) = y.Vars) (h3 : fromB p.Fuel 1048577 = true) (hr : restsB c p.Def n = true) : isPB c (goesR c p n) = true := by
  unfold restsB at hr
  by_cases h24 : isB c p.Def n 24 = true
  · obtain ⟨a, b, d, e, x, ex, o⟩ := isB_at h24
    have : goesR c p n = ⟨p.Def, 0, p.Vars, p.Fuel, 5, 0, 0, 0, 0, 0, []⟩ := by
      unfold goesR endB
      rw [ex]; simp [o]
    rw [this]
    unfold isPB
    simp only [h1, h3, Bool.true_and, ey, beqt h2]
    rfl
  · rw [Bool.or_eq_true] at hr
    have h1' : isB c p.Def n 1 = true := hr.resolve_right h24
    obtain ⟨a, b, d, e, x, ex, o⟩ := isB_at h1'
    have : goesR c p n = ⟨p.Def, n, p.Vars, p.Fuel, 0, 0, 0, 0, 0, 0, []⟩ := by
      unfold goesR endB
      rw [ex]; simp [o]
    rw [this]
    unfold isPB
    simp only [h1, h3, Bool.true_and, ey, beqt h2]
    have : modeB c ⟨p.Def, n, p.Vars, p.Fuel, 0, 0, 0, 0, 0, 0, []⟩ = true := by
      unfold modeB
      rw [if_pos (.inl rfl)]
      exact h1'
    rw [this]
    rfl

/-- A routine's first place is its own. -/
theorem back_at {c : T_api_Code} (hD : ∀ k : Int, 0 ≤ k → k < c.Defs.length → DefOK c k) {d : Nat} (hd : d < c.Defs.length) : ∀ m, d + 1 + m ≤ c.Defs.length → back c c.Defs[d].Entry (d + 1 + m) = (d : Int)
  | 0, h => by
    simp only [back]
    rw [List.getElem?_eq_getElem hd]
    simp
  | m + 1, h => by
    have hlt := entry_lt hD m d (by omega)
    rw [show d + 1 + (m + 1) = (d + 1 + m) + 1 by omega]
    simp only [back]
    rw [List.getElem?_eq_getElem (by omega)]
    simp only
    rw [if_neg (by omega)]
    exact back_at hD hd m (by omega)
theorem entry_rests {c : T_api_Code} (h : CSmall c) (hr : F_retraceref20_Right c = some true) {d : Int} {y : T_api_Def} (ey : lAt c.Defs d = some y) : restsB c d y.Entry = true := by
  obtain ⟨d0, d1⟩ := lAt_rng ey
  have hD := right_def h hr
  have hg := right_good h hr y (lAt_mem ey)
  obtain ⟨k, rfl⟩ := Int.eq_ofNat_of_zero_le d0
  have hk : k < c.Defs.length := by omega
  have hy : y = c.Defs[k] := by rw [lAt_lt hk] at ey; exact (Option.some.inj ey).symm
  have hro : routine c y.Entry = (k : Int) := by
    unfold routine
    rw [if_pos hg]
    have := back_fold c y.Entry c.Defs.length (Nat.le_refl _)
    rw [List.take_of_length_le (by rw [List.length_zipIdx]; exact Nat.le_refl _)] at this
    rw [this]
    have e2 := back_at hD hk (c.Defs.length - (k + 1)) (by omega)
    rw [show k + 1 + (c.Defs.length - (k + 1)) = c.Defs.length by omega, ← hy] at e2
    exact e2
  obtain ⟨x, ex, _⟩ := lAt_ok (l := c.Ins) hg.1 hg.2
  have hE := right_entry h hr k (by omega) (by omega) y x ey ex
  unfold restsB isB
  rw [hro, ex]
  rcases hE with e | e <;> simp [e]

section
variable {c : T_api_Code} {d fuel : Int} {y : T_api_Def}
def newP (d fuel : Int) (x : List Int) : T_api_Proc := ⟨d, 0, x, fuel, 0, 0, 0, 0, 0, 0, []⟩
theorem new_loop (hi : c.Ins.length ≤ 150) (ey : lAt c.Defs d = some y) (hV : y.Vars ≤ 16) {n : Int} (en : F_retraceref20_Settle c y.Entry = some n) : ∀ (m : Nat) (x : List Int), (x.length : Int) + m = y.Vars →
    Loop (fun s : List Int => F_proc_New_L2 c d fuel s) x = some (goesR c (newP d fuel (x ++ List.replicate m 0)) n, 0)
  | 0, x, hx => by
    refine Loop_inr ?_
    unfold F_proc_New_L2
    obtain ⟨n', en', eg, -⟩ := goes_eq c hi (newP d fuel x) (by show x.length ≤ 1000; omega) y.Entry
    rw [en] at en'; cases en'
    unfold newP at eg
    rw [ey]
    simp only [Option.bind_some]
    rw [dcf (by omega), cond_false, eg]
    simp [newP]
  | m + 1, x, hx => by
    have hstep : F_proc_New_L2 c d fuel x = some (.inl (x ++ [0])) := by
      unfold F_proc_New_L2
      rw [ey]
      simp only [Option.bind_some]
      rw [dct (by omega), cond_true, grd_t (by simp; omega)]
    rw [Loop_inl hstep, new_loop hi ey hV en m (x ++ [0]) (by simp; omega)]
    rw [List.append_assoc]; rfl
theorem rnew_loop (hi : c.Ins.length ≤ 150) (ey : lAt c.Defs d = some y) (hV : y.Vars ≤ 16) {n : Int} (en : F_retraceref20_Settle c y.Entry = some n) : ∀ (m : Nat) (x : List Int), (x.length : Int) + m = y.Vars →
    Loop (fun s : Int × List Int => F_retraceref22_New_L2 c d fuel s.1 s.2) ((x.length : Int), x) = some ⟨goesR c (newP d fuel (x ++ List.replicate m 0)) n, 0⟩
  | 0, x, hx => by
    refine Loop_inr ?_
    show F_retraceref22_New_L2 c d fuel (x.length : Int) x = _
    unfold F_retraceref22_New_L2
    obtain ⟨n', en', -, eg⟩ := goes_eq c hi (newP d fuel x) (by show x.length ≤ 1000; omega) y.Entry
    rw [en] at en'; cases en'
    unfold newP at eg
    rw [ey]
    simp only [Option.bind_some]
    rw [dcf (by omega), cond_false, eg]
    simp [newP]
  | m + 1, x, hx => by
    have hstep : F_retraceref22_New_L2 c d fuel (x.length : Int) x = some (.inl (((x ++ [0]).length : Int), x ++ [0])) := by
      unfold F_retraceref22_New_L2
      rw [ey]
      simp only [Option.bind_some]
      rw [dct (by omega), cond_true, grd_t (by simp; omega), w64i (by omega) (by omega)]
      simp
    rw [Loop_inl (s := ((x.length : Int), x)) (step := fun s : Int × List Int => F_retraceref22_New_L2 c d fuel s.1 s.2) hstep, rnew_loop hi ey hV en m (x ++ [0]) (by simp; omega)]
    rw [List.append_assoc]; rfl
end

theorem law_pnews (c : T_api_Code) (d : Int) (args : List Int) (fuel : Int) (dn : ∀ d ∈ c.Defs, d.Name.size ≤ maxLen) (cn : ∀ d ∈ c.Chans, d.Name.size ≤ maxLen) : F_retracelaw22_ProcNews c d args fuel = some true := by
  have ht : F_retracelaw22_ProcNews_J1 c d args fuel true = some true := by
    unfold F_retracelaw22_ProcNews_J1
    rw [cond_true, ev_retracelaw22_live]; rfl
  unfold F_retracelaw22_ProcNews
  obtain ⟨b, eb, hb⟩ := large_eq c ⟨0, 0, args, 0, 0, 0, 0, 0, 0, 0, []⟩
  rw [eb, Option.bind_some]
  cases b with
  | true => rw [cond_true, ht]
  | false =>
  obtain ⟨h1, h2, h3, h4, -⟩ := hb rfl
  replace h4 : args.length ≤ 40 := h4
  have h : CSmall c := ⟨h1, h2, h3, dn, cn⟩
  obtain ⟨r, er, -⟩ := ok_Right c h
  rw [er, cond_false, Option.bind_some]
  cases r with
  | false => exact ht
  | true =>
  have hz := right_sz h er
  -- both answer the same
  let z : T_api_Proc := ⟨0, 0, [], 0, 0, 0, 0, 0, 0, 0, []⟩
  have key : ∃ p e, F_proc_New c d args fuel = some (p, e) ∧ F_retraceref22_New c d args fuel = some ⟨p, e⟩ ∧ p.Vars.length ≤ 40 ∧ p.Alts = [] ∧ (e = 0 → isPB c p = true) := by
    unfold F_proc_New F_retraceref22_New
    rw [within_from (by omega) (by omega), from_eq, wf_eq, from_eq]
    simp only [Option.bind_some]
    have no : ∃ p e, F_proc_New_J1 c d args fuel true = some (p, e) ∧ F_retraceref22_New_J1 c d args fuel true = some ⟨p, e⟩ ∧ p.Vars.length ≤ 40 ∧ p.Alts = [] ∧ (e = 0 → isPB c p = true) := ⟨z, 1, rfl, rfl, by simp [z], rfl, fun h => by cases h⟩
    cases e1 : fromB d c.Defs.length with
    | false => exact no
    | true =>
    have hd : 0 ≤ d ∧ d < c.Defs.length := by simpa [fromB] using e1
    obtain ⟨y, ey, _⟩ := lAt_ok hd.1 hd.2
    rw [ey]
    simp only [Bool.not_true, cond_false, Option.bind_some, bne]
    cases e2 : ((args.length : Int) == y.Params) with
    | false => exact no
    | true =>
    simp only [Bool.not_true, cond_false]
    cases e3 : fromB fuel 1048577 with
    | false => exact no
    | true =>
    have e2' : (args.length : Int) = y.Params := by simpa using e2
    obtain ⟨⟨q1, q2, q3⟩, -⟩ := right_def h er d hd.1 hd.2 y ey
    have hrest := entry_rests h er ey
    have en := settle_rest h1 hrest
    have hm : (args.length : Int) + ((y.Vars - y.Params).toNat : Nat) = y.Vars := by omega
    refine ⟨goesR c (newP d fuel (args ++ List.replicate (y.Vars - y.Params).toNat 0)) y.Entry, 0, ?_, ?_, ?_, ?_, fun _ => ?_⟩
    · unfold F_proc_New_J1 F_slices_Clone_int_int
      rw [Bool.not_true, cond_false, grd_t (by simp; omega)]
      simp only [Option.bind_some, List.nil_append]
      exact new_loop h1 ey q3 en _ args hm
    · unfold F_retraceref22_New_J1
      rw [Bool.not_true, cond_false, grd_t (by simp; omega)]
      simp only [List.nil_append]
      exact rnew_loop h1 ey q3 en _ args hm
    · rw [(goesR_len c _ _).1]
      show (args ++ List.replicate _ 0).length ≤ 40
      rw [List.length_append, List.length_replicate]; omega
    · exact (goesR_len c _ _).2
    · refine isP_goes2 (y := y) e1 ey ?_ e3 hrest
      show (((args ++ List.replicate (y.Vars - y.Params).toNat 0).length : Nat) : Int) = y.Vars
      rw [List.length_append, List.length_replicate]
      omega
  obtain ⟨p, e, k1, k2, k3, k4, k5⟩ := key
  have hA : p.Alts.length ≤ 40 := by rw [k4]; simp
  unfold F_retracelaw22_ProcNews_J1 F_retracelaw22_ProcNews_J2
  have s1 := pSame_self p (by omega) (by omega)
  have s2 := same_self p (by omega) (by omega)
  rw [k1, k2]
  simp only [Bool.not_true, cond_false, Option.bind_some, s1, s2, cond_true, beq_self_eq_true, ev_retracelaw22_live, bne]
  by_cases he : e = 0
  · rw [beqt he]
    simp only [Bool.not_true, cond_false]
    rw [check_eq c h hz p k3 hA, k5 he]
    rfl
  · rw [beqf he]; rfl
end Go.Ab
