/- Whether code may be: the program answers as the reference. -/
import Derived.Test.YtholdfpblliiiaaQH
namespace Go.Ab
set_option linter.unusedVariables false
set_option maxRecDepth 10000
theorem grd2 {α : Type} (a b : Int) (k : Option α) : grd ((([a, b] : List Int)).length = 2 ∧ ((List.replicate 2 (0 : Int))).length = 2) k = k := grd_t ⟨rfl, rfl⟩ k
theorem grd1 {α : Type} (a b : Int) (k : Option α) : grd ((([a, b] : List Int)).length = 2) k = k := grd_t rfl k
theorem rep_at (n : Nat) (q : Int) (x : T_retraceref20_Is) (h0 : 0 ≤ q) (h1 : q < n) : lAt (List.replicate n x) q = some x := by
  obtain ⟨k, rfl⟩ := Int.eq_ofNat_of_zero_le h0
  rw [lAt_lt (by rw [List.length_replicate]; omega), List.getElem_replicate]
/-- The flow of a routine. -/
theorem flow_eq (c : T_api_Code) (h : CSmall c) (hg : CGood c) (r m T : Int) (d : T_api_Def) (hd : lAt c.Defs r = some d) (hT : F_retraceref20_To c r = some T)
    (ht : ∀ p x, d.Entry ≤ p → p < T → lAt c.Ins p = some x → (tgt x).2 = true → (tgt x).1 < c.Ins.length) :
    ∃ a ok all b, F_code_checker_flow ⟨c, m, d.Entry, T, d.Vars⟩ = some (a, ok) ∧ F_retraceref20_Flow c r = some (all, b) ∧ ((ok = true ∧ a = 0 ∧ b = -1) ∨ (ok = false ∧ a = b ∧ 0 ≤ b)) := by
  have hi := h.ins
  obtain ⟨hr0, hr1⟩ := lAt_rng hd
  have hE := hg d (lAt_mem hd)
  obtain ⟨T', hT', hTl⟩ := ok_To c h hg r hr0 hr1
  rw [hT] at hT'; cases hT'
  have key : ∀ n (p : Int) kn all, d.Entry ≤ p → p ≤ max d.Entry T → (max d.Entry T - p).toNat ≤ n → FI c.Ins.length p kn all →
      ∃ a ok all' b, Loop (fun s : ((List (Int × T_code_there)) × Int) => F_code_checker_flow_L7 ⟨c, m, d.Entry, T, d.Vars⟩ s.1 s.2) (kn, p) = some (a, ok) ∧ Loop (fun s : (Int × (List T_retraceref20_Is)) => F_retraceref20_Flow_L8 c r s.1 s.2) (p, all) = some (all', b) ∧ ((ok = true ∧ a = 0 ∧ b = -1) ∨ (ok = false ∧ a = b ∧ 0 ≤ b)) := by
    intro n
    induction n with
    | zero =>
      intro p kn all h1 h2 h3 hf
      have : ¬ p < T := by omega
      refine ⟨0, true, all, -1, Loop_inr ?_, Loop_inr ?_, .inl ⟨rfl, rfl, rfl⟩⟩
      · show F_code_checker_flow_L7 _ kn p = _
        unfold F_code_checker_flow_L7
        rw [dcf this]; rfl
      · show F_retraceref20_Flow_L8 c r p all = _
        unfold F_retraceref20_Flow_L8
        rw [hT]
        simp only [Option.bind_some, dcf this]; rfl
    | succ n ih =>
      intro p kn all h1 h2 h3 hf
      by_cases hp : p < T
      · obtain ⟨x, hx, _⟩ := lAt_ok (l := c.Ins) (i := p) (by omega) (by omega)
        rcases flow_step c h r p m T d.Vars d.Entry hT x (by omega) hp hTl hx (ht p x h1 hp hx) hf with ⟨all', q1, q2⟩ | ⟨kn', all', q1, q2, q3⟩
        · exact ⟨p, false, all', p, Loop_inr q1, Loop_inr q2, .inr ⟨rfl, rfl, by omega⟩⟩
        · obtain ⟨a, ok, all2, b, g1, g2, g3⟩ := ih (p + 1) kn' all' (by omega) (by omega) (by omega) q3
          exact ⟨a, ok, all2, b, (Loop_inl q1).trans g1, (Loop_inl q2).trans g2, g3⟩
      · refine ⟨0, true, all, -1, Loop_inr ?_, Loop_inr ?_, .inl ⟨rfl, rfl, rfl⟩⟩
        · show F_code_checker_flow_L7 _ kn p = _
          unfold F_code_checker_flow_L7
          rw [dcf hp]; rfl
        · show F_retraceref20_Flow_L8 c r p all = _
          unfold F_retraceref20_Flow_L8
          rw [hT]
          simp only [Option.bind_some, dcf hp]; rfl
  unfold F_code_checker_flow F_retraceref20_Flow
  have e1 : w64 ((c.Ins.length : Int) + 1) = (c.Ins.length : Int) + 1 := w64i (by omega) (by omega)
  have e2 : Int.toNat ((c.Ins.length : Int) + 1) = c.Ins.length + 1 := by omega
  rw [e1, grd_t ⟨by omega, by omega, by omega, by omega⟩, e2, hd]
  simp only [Option.bind_some, rep_at (c.Ins.length + 1) d.Entry _ hE.1 (by omega)]
  refine key _ d.Entry _ _ (Int.le_refl _) (by omega) (Nat.le_refl _) ⟨by rw [List.length_set, List.length_replicate], fun q a b => ?_⟩
  rw [lAt_set _ _ _ _ hE.1 (by rw [List.length_replicate]; omega) (by omega)]
  simp only [mGet, beq_iff_eq]
  by_cases hq : q = d.Entry
  · rw [if_pos hq, if_pos hq]; rfl
  · rw [if_neg hq, if_neg hq, rep_at _ _ _ (by omega) (by omega)]; rfl
/-- All of a routine's instructions may be. -/
def MayAll (c : T_api_Code) (r : Int) : Prop := ∀ d T p, lAt c.Defs r = some d → F_retraceref20_To c r = some T → d.Entry ≤ p → p < T → ∃ m, F_retraceref20_may c r p m = some true
theorem may_tgt (c : T_api_Code) (h : CSmall c) (hg : CGood c) {r : Int} (hr0 : 0 ≤ r) (hr1 : r < c.Defs.length) (hm : MayAll c r) {d : T_api_Def} {T : Int} (hd : lAt c.Defs r = some d) (hT : F_retraceref20_To c r = some T) :
    ∀ p x, d.Entry ≤ p → p < T → lAt c.Ins p = some x → (tgt x).2 = true → (tgt x).1 < c.Ins.length := by
  intro p x h1 h2 hx ht
  obtain ⟨m, e⟩ := hm d T p hd hT h1 h2
  have hE := hg d (lAt_mem hd)
  obtain ⟨T', hT', hTl⟩ := ok_To c h hg r hr0 hr1
  rw [hT] at hT'; cases hT'
  have := (ok_may c h hg r hr0 hr1 p m (by omega) (by omega)).get e rfl x (tgt x).1 hx (by rw [tgt_s]; congr 1; rw [← ht])
  exact this.2
abbrev CkS := (Int × (List T_api_Ins) × (List T_api_Def) × (List T_api_Chan) × Int × Int × Int × Int × Int × Int)
theorem inner_eq (c : T_api_Code) (h : CSmall c) (hg : CGood c) (r T : Int) (d : T_api_Def) (hd : lAt c.Defs r = some d) (hT : F_retraceref20_To c r = some T) (m0 : Int) : ∀ (n : Nat) (p m : Int), d.Entry ≤ p → (T - p).toNat ≤ n →
    (∃ q, Loop (fun s : (Int × Int) => F_code_Check_L2 c r ⟨c, m0, d.Entry, T, d.Vars⟩ s.1 s.2) (p, m) = some (.inr (q, 15)) ∧ Loop (fun s : (Int × Int) => F_retraceref20_Check_L2 c r s.1 s.2) (m, p) = some (.inr [q, 15])) ∨
    ∃ m' f t v, Loop (fun s : (Int × Int) => F_code_Check_L2 c r ⟨c, m0, d.Entry, T, d.Vars⟩ s.1 s.2) (p, m) = some (.inl (w64 (r + 1), c.Ins, c.Defs, c.Chans, c.Main, c.Stmts, m', f, t, v)) ∧ Loop (fun s : (Int × Int) => F_retraceref20_Check_L2 c r s.1 s.2) (m, p) = some (.inl (m', w64 (r + 1))) ∧
      ∀ q, p ≤ q → q < T → ∃ m, F_retraceref20_may c r q m = some true := by
  have hi := h.ins
  obtain ⟨hr0, hr1⟩ := lAt_rng hd
  have hE := hg d (lAt_mem hd)
  obtain ⟨T', hT', hTl⟩ := ok_To c h hg r hr0 hr1
  rw [hT] at hT'; cases hT'
  have fin : ∀ p m : Int, ¬ p < T → (∃ q, Loop (fun s : (Int × Int) => F_code_Check_L2 c r ⟨c, m0, d.Entry, T, d.Vars⟩ s.1 s.2) (p, m) = some (.inr (q, 15)) ∧ Loop (fun s : (Int × Int) => F_retraceref20_Check_L2 c r s.1 s.2) (m, p) = some (.inr [q, 15])) ∨
    ∃ m' f t v, Loop (fun s : (Int × Int) => F_code_Check_L2 c r ⟨c, m0, d.Entry, T, d.Vars⟩ s.1 s.2) (p, m) = some (.inl (w64 (r + 1), c.Ins, c.Defs, c.Chans, c.Main, c.Stmts, m', f, t, v)) ∧ Loop (fun s : (Int × Int) => F_retraceref20_Check_L2 c r s.1 s.2) (m, p) = some (.inl (m', w64 (r + 1))) ∧
      ∀ q, p ≤ q → q < T → ∃ m, F_retraceref20_may c r q m = some true := by
    intro p m hp
    refine .inr ⟨m, d.Entry, T, d.Vars, Loop_inr ?_, Loop_inr ?_, fun q a b => by omega⟩
    · show F_code_Check_L2 c r _ p m = _
      unfold F_code_Check_L2
      rw [dcf hp]; rfl
    · show F_retraceref20_Check_L2 c r m p = _
      unfold F_retraceref20_Check_L2
      rw [hT]
      simp only [Option.bind_some, dcf hp]; rfl
  intro n
  induction n with
  | zero => intro p m h1 h2; exact fin p m (by omega)
  | succ n ih =>
    intro p m h1 h2
    by_cases hp : p < T
    · obtain ⟨x, hx, _⟩ := lAt_ok (l := c.Ins) (i := p) (by omega) (by omega)
      have hme := may_eq c h hg r p m T d hd hT (by omega) (by omega)
      obtain ⟨b, hb, _⟩ := ok_may c h hg r hr0 hr1 p m (by omega) (by omega)
      rw [hb] at hme
      have e1 : w64 (p + 1) = p + 1 := w64i (by omega) (by omega)
      cases b with
      | false =>
        refine .inl ⟨p, Loop_inr ?_, Loop_inr ?_⟩
        · show F_code_Check_L2 c r _ p m = _
          unfold F_code_Check_L2
          rw [dct hp]
          simp only [cond_true, hme, Option.bind_some]; rfl
        · show F_retraceref20_Check_L2 c r m p = _
          unfold F_retraceref20_Check_L2
          rw [hT]
          simp only [Option.bind_some, dct hp, cond_true, hb, grd2, grd1]; rfl
      | true =>
        have go : ∀ m2 : Int, (cond (x.Op == 1) (w64 (m + 1)) m) = m2 → (∃ q, Loop (fun s : (Int × Int) => F_code_Check_L2 c r ⟨c, m0, d.Entry, T, d.Vars⟩ s.1 s.2) (p, m) = some (.inr (q, 15)) ∧ Loop (fun s : (Int × Int) => F_retraceref20_Check_L2 c r s.1 s.2) (m, p) = some (.inr [q, 15])) ∨
            ∃ m' f t v, Loop (fun s : (Int × Int) => F_code_Check_L2 c r ⟨c, m0, d.Entry, T, d.Vars⟩ s.1 s.2) (p, m) = some (.inl (w64 (r + 1), c.Ins, c.Defs, c.Chans, c.Main, c.Stmts, m', f, t, v)) ∧ Loop (fun s : (Int × Int) => F_retraceref20_Check_L2 c r s.1 s.2) (m, p) = some (.inl (m', w64 (r + 1))) ∧
            ∀ q, p ≤ q → q < T → ∃ m, F_retraceref20_may c r q m = some true := by
          intro m2 hm2
          have s1 : F_code_Check_L2 c r ⟨c, m0, d.Entry, T, d.Vars⟩ p m = some (.inl (p + 1, m2)) := by
            unfold F_code_Check_L2 F_code_Check_J1
            rw [dct hp, e1]
            simp only [cond_true, hme, Option.bind_some, hx, Bool.not_true, cond_false]
            rw [← hm2]
            cases x.Op == 1 <;> rfl
          have s2 : F_retraceref20_Check_L2 c r m p = some (.inl (m2, p + 1)) := by
            unfold F_retraceref20_Check_L2 F_retraceref20_Check_J1
            rw [hT, e1]
            simp only [Option.bind_some, dct hp, cond_true, hb, hx, Bool.not_true, cond_false]
            rw [← hm2]
            cases x.Op == 1 <;> rfl
          rcases ih (p + 1) m2 (by omega) (by omega) with ⟨q, g1, g2⟩ | ⟨m', f, t, v, g1, g2, g3⟩
          · exact .inl ⟨q, (Loop_inl s1).trans g1, (Loop_inl s2).trans g2⟩
          · refine .inr ⟨m', f, t, v, (Loop_inl s1).trans g1, (Loop_inl s2).trans g2, fun q a b => ?_⟩
            by_cases hq : q = p
            · subst hq; exact ⟨m, hb⟩
            · exact g3 q (by omega) b
        exact go _ rfl
    · exact fin p m hp
theorem flows_eq (c : T_api_Code) (h : CSmall c) (hg : CGood c) (hall : ∀ r : Int, 0 ≤ r → r < c.Defs.length → MayAll c r) : ∀ (n : Nat) (r m f t v : Int), 0 ≤ r → r ≤ c.Defs.length → (c.Defs.length - r).toNat ≤ n →
    ∃ a e, Loop (fun s : CkS => F_code_Check_L3 c s.1 s.2.1 s.2.2.1 s.2.2.2.1 s.2.2.2.2.1 s.2.2.2.2.2.1 s.2.2.2.2.2.2.1 s.2.2.2.2.2.2.2.1 s.2.2.2.2.2.2.2.2.1 s.2.2.2.2.2.2.2.2.2) (r, c.Ins, c.Defs, c.Chans, c.Main, c.Stmts, m, f, t, v) = some (a, e) ∧ Loop (fun s : Int => F_retraceref20_Check_L3 c s) r = some [a, e] ∧ (e = 0 → a = 0) := by
  have hd40 := h.defs
  have fin : ∀ r m f t v : Int, ¬ r < c.Defs.length → ∃ a e, Loop (fun s : CkS => F_code_Check_L3 c s.1 s.2.1 s.2.2.1 s.2.2.2.1 s.2.2.2.2.1 s.2.2.2.2.2.1 s.2.2.2.2.2.2.1 s.2.2.2.2.2.2.2.1 s.2.2.2.2.2.2.2.2.1 s.2.2.2.2.2.2.2.2.2) (r, c.Ins, c.Defs, c.Chans, c.Main, c.Stmts, m, f, t, v) = some (a, e) ∧ Loop (fun s : Int => F_retraceref20_Check_L3 c s) r = some [a, e] ∧ (e = 0 → a = 0) := by
    intro r m f t v hr
    refine ⟨0, 0, Loop_inr ?_, Loop_inr ?_, fun _ => rfl⟩
    · show F_code_Check_L3 c r c.Ins c.Defs c.Chans c.Main c.Stmts m f t v = _
      unfold F_code_Check_L3
      rw [dcf hr]; rfl
    · show F_retraceref20_Check_L3 c r = _
      unfold F_retraceref20_Check_L3
      rw [dcf hr, grd2, grd1]; rfl
  intro n
  induction n with
  | zero => intro r m f t v h0 h1 h2; exact fin r m f t v (by omega)
  | succ n ih =>
    intro r m f t v h0 h1 h2
    by_cases hr : r < c.Defs.length
    · obtain ⟨d, hd, _⟩ := lAt_ok h0 hr
      obtain ⟨T, hT, _⟩ := ok_To c h hg r h0 hr
      obtain ⟨a, ok, all, b, g1, g2, g3⟩ := flow_eq c h hg r m T d hd hT (may_tgt c h hg h0 hr (hall r h0 hr) hd hT)
      have e1 : w64 (r + 1) = r + 1 := w64i (by omega) (by omega)
      rcases g3 with ⟨rfl, rfl, rfl⟩ | ⟨rfl, rfl, hb⟩
      · have s1 : F_code_Check_L3 c r c.Ins c.Defs c.Chans c.Main c.Stmts m f t v = some (.inl (r + 1, c.Ins, c.Defs, c.Chans, c.Main, c.Stmts, m, d.Entry, T, d.Vars)) := by
          unfold F_code_Check_L3
          rw [dct hr, e1]
          simp only [cond_true, crout c r m f t v T d hd hT, Option.bind_some, g1]; rfl
        have s2 : F_retraceref20_Check_L3 c r = some (.inl (r + 1)) := by
          unfold F_retraceref20_Check_L3
          rw [dct hr, e1]
          simp only [cond_true, Option.bind_some, g2]; rfl
        obtain ⟨a, e, q1, q2, q3⟩ := ih (r + 1) m d.Entry T d.Vars (by omega) (by omega) (by omega)
        exact ⟨a, e, (Loop_inl s1).trans q1, (Loop_inl s2).trans q2, q3⟩
      · refine ⟨a, 14, Loop_inr ?_, Loop_inr ?_, fun h => by cases h⟩
        · show F_code_Check_L3 c r c.Ins c.Defs c.Chans c.Main c.Stmts m f t v = _
          unfold F_code_Check_L3
          rw [dct hr]
          simp only [cond_true, crout c r m f t v T d hd hT, Option.bind_some, g1]; rfl
        · show F_retraceref20_Check_L3 c r = _
          unfold F_retraceref20_Check_L3
          rw [dct hr]
          simp only [cond_true, Option.bind_some, g2, dct hb, grd2, grd1]; rfl
    · exact fin r m f t v hr
/-- What is known of code whose answer is OK. -/
structure COk (c : T_api_Code) : Prop where
  good : CGood c
  tab : F_retraceref20_tables c = some true
  may : ∀ r : Int, 0 ≤ r → r < c.Defs.length → MayAll c r
theorem check_eq (c : T_api_Code) (h : CSmall c) : ∃ a e, F_code_Check c = some (a, e) ∧ F_retraceref20_Check c = some [a, e] ∧ (e = 0 → a = 0 ∧ COk c) := by
  have hd40 := h.defs
  unfold F_code_Check F_retraceref20_Check
  rw [tables_eq c h]
  obtain ⟨b, hb, hgb⟩ := ok_tables c h
  rw [hb]
  simp only [Option.bind_some]
  cases b with
  | false => exact ⟨0, 3, rfl, by rw [Bool.not_false, cond_true, grd2, grd1], fun h => by cases h⟩
  | true =>
  have hg := hgb rfl
  simp only [Bool.not_true, cond_false]
  have fin : ∀ r m f t v : Int, ¬ r < c.Defs.length → (∀ q : Int, 0 ≤ q → q < r → MayAll c q) →
      ∃ a e, Loop (fun s : CkS => F_code_Check_L4 c s.1 s.2.1 s.2.2.1 s.2.2.2.1 s.2.2.2.2.1 s.2.2.2.2.2.1 s.2.2.2.2.2.2.1 s.2.2.2.2.2.2.2.1 s.2.2.2.2.2.2.2.2.1 s.2.2.2.2.2.2.2.2.2) (r, c.Ins, c.Defs, c.Chans, c.Main, c.Stmts, m, f, t, v) = some (a, e) ∧ Loop (fun s : (Int × Int) => F_retraceref20_Check_L4 c s.1 s.2) (m, r) = some [a, e] ∧ (e = 0 → a = 0 ∧ ∀ r : Int, 0 ≤ r → r < c.Defs.length → MayAll c r) := by
    intro r m f t v hr hall
    have hall' : ∀ q : Int, 0 ≤ q → q < c.Defs.length → MayAll c q := fun q a b => hall q a (by omega)
    obtain ⟨a, e, q1, q2, q3⟩ := flows_eq c h hg hall' _ 0 m f t v (by omega) (by omega) (Nat.le_refl _)
    cases hm : (m != c.Stmts) with
    | true =>
      refine ⟨0, 3, Loop_inr ?_, Loop_inr ?_, fun h => by cases h⟩
      · show F_code_Check_L4 c r c.Ins c.Defs c.Chans c.Main c.Stmts m f t v = _
        unfold F_code_Check_L4
        rw [dcf hr, hm]; rfl
      · show F_retraceref20_Check_L4 c m r = _
        unfold F_retraceref20_Check_L4
        rw [dcf hr, hm, grd2, grd1]; rfl
    | false =>
      refine ⟨a, e, Loop_inr ?_, Loop_inr ?_, fun he => ⟨q3 he, hall'⟩⟩
      · show F_code_Check_L4 c r c.Ins c.Defs c.Chans c.Main c.Stmts m f t v = _
        unfold F_code_Check_L4
        rw [dcf hr, hm]
        simp only [cond_false, q1]; rfl
      · show F_retraceref20_Check_L4 c m r = _
        unfold F_retraceref20_Check_L4
        rw [dcf hr, hm]
        simp only [cond_false, q2]; rfl
  have key : ∀ (n : Nat) (r m f t v : Int), 0 ≤ r → r ≤ c.Defs.length → (c.Defs.length - r).toNat ≤ n → (∀ q : Int, 0 ≤ q → q < r → MayAll c q) →
      ∃ a e, Loop (fun s : CkS => F_code_Check_L4 c s.1 s.2.1 s.2.2.1 s.2.2.2.1 s.2.2.2.2.1 s.2.2.2.2.2.1 s.2.2.2.2.2.2.1 s.2.2.2.2.2.2.2.1 s.2.2.2.2.2.2.2.2.1 s.2.2.2.2.2.2.2.2.2) (r, c.Ins, c.Defs, c.Chans, c.Main, c.Stmts, m, f, t, v) = some (a, e) ∧ Loop (fun s : (Int × Int) => F_retraceref20_Check_L4 c s.1 s.2) (m, r) = some [a, e] ∧ (e = 0 → a = 0 ∧ ∀ r : Int, 0 ≤ r → r < c.Defs.length → MayAll c r) := by
    intro n
    induction n with
    | zero => intro r m f t v h0 h1 h2 hall; exact fin r m f t v (by omega) hall
    | succ n ih =>
      intro r m f t v h0 h1 h2 hall
      by_cases hr : r < c.Defs.length
      · obtain ⟨d, hd, _⟩ := lAt_ok h0 hr
        obtain ⟨T, hT, _⟩ := ok_To c h hg r h0 hr
        have e1 : w64 (r + 1) = r + 1 := w64i (by omega) (by omega)
        have s1 : F_code_Check_L4 c r c.Ins c.Defs c.Chans c.Main c.Stmts m f t v = Loop (fun s : (Int × Int) => F_code_Check_L2 c r ⟨c, m, d.Entry, T, d.Vars⟩ s.1 s.2) (d.Entry, m) := by
          unfold F_code_Check_L4
          rw [dct hr]
          simp only [cond_true, crout c r m f t v T d hd hT, Option.bind_some]
        have s2 : F_retraceref20_Check_L4 c m r = Loop (fun s : (Int × Int) => F_retraceref20_Check_L2 c r s.1 s.2) (m, d.Entry) := by
          unfold F_retraceref20_Check_L4
          rw [dct hr]
          simp only [cond_true, hd, Option.bind_some]
        rcases inner_eq c h hg r T d hd hT m _ d.Entry m (Int.le_refl _) (Nat.le_refl _) with ⟨q, g1, g2⟩ | ⟨m', f', t', v', g1, g2, g3⟩
        · exact ⟨q, 15, Loop_inr (s1.trans g1), Loop_inr (s2.trans g2), fun h => by cases h⟩
        · rw [e1] at g1 g2
          obtain ⟨a, e, q1, q2, q3⟩ := ih (r + 1) m' f' t' v' (by omega) (by omega) (by omega) fun q a b => by
            by_cases hq : q = r
            · subst hq
              intro d' T' p' hd' hT' h1 h2
              rw [hd] at hd'; cases hd'
              rw [hT] at hT'; cases hT'
              exact g3 p' h1 h2
            · exact hall q a (by omega)
          exact ⟨a, e, (Loop_inl (s1.trans g1)).trans q1, (Loop_inl (s2.trans g2)).trans q2, q3⟩
      · exact fin r m f t v hr hall
  obtain ⟨a, e, q1, q2, q3⟩ := key _ 0 0 0 0 0 (by omega) (by omega) (Nat.le_refl _) (fun q (a : 0 ≤ q) (b : q < 0) => by omega)
  exact ⟨a, e, q1, q2, fun he => ⟨(q3 he).1, hg, hb, (q3 he).2⟩⟩
end Go.Ab
