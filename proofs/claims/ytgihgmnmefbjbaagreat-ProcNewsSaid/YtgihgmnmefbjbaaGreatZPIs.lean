/- The reference's looks at processes, plainly. -/
import Derived.Test.YtgihgmnmefbjbaaGreatZPSmall
import Derived.Test.YtgihgmnmefbjbaaGreatAbScan
namespace Go.Ab
set_option linter.unusedVariables false
def routine (c : T_api_Code) (a : Int) : Int := if 0 ≤ a ∧ a < c.Ins.length then c.Defs.zipIdx.foldl (fun s x => if x.1.Entry ≤ a then (x.2 : Int) else s) (-1) else -1
theorem routine_eq (c : T_api_Code) (hd : c.Defs.length ≤ 40) (a : Int) : F_retraceref20_Routine c a = some (routine c a) := by
  unfold F_retraceref20_Routine routine
  by_cases h : 0 ≤ a ∧ a < c.Ins.length
  · rw [if_pos h]
    refine Loop_fold c.Defs.zipIdx (by rw [List.length_zipIdx]; omega) (fun s x => if x.1.Entry ≤ a then (x.2 : Int) else s) id (fun s i => (s, i)) (fun _ _ => True) (fun k hk s _ => ?_) (fun _ _ _ _ => trivial) (fun s _ => ?_) (-1) trivial
    · rw [List.length_zipIdx] at hk
      show F_retraceref20_Routine_L3 c a s (k : Int) = _
      unfold F_retraceref20_Routine_L3 F_retraceref20_Routine_J1 F_retraceref20_Routine_J2
      rw [dct (by omega), dct h.1, dct h.2, lAt_lt hk]
      simp only [cond_true, Option.bind_some, List.getElem_zipIdx, Nat.zero_add]
      by_cases e : c.Defs[k].Entry ≤ a
      · rw [dct e, if_pos e]; rfl
      · rw [dcf e, if_neg e]; rfl
    · show F_retraceref20_Routine_L3 c a s ((c.Defs.zipIdx).length : Int) = _
      unfold F_retraceref20_Routine_L3 F_retraceref20_Routine_J1
      rw [List.length_zipIdx, dcf (by omega)]; rfl
  · rw [if_neg h]
    refine Loop_inr ?_
    show F_retraceref20_Routine_L3 c a (-1) 0 = _
    unfold F_retraceref20_Routine_L3 F_retraceref20_Routine_J1
    by_cases h0 : (0 : Int) ≤ a
    · rw [dct h0, dcf (show ¬ a < (c.Ins.length : Int) by omega)]
      cases decide ((0 : Int) < (c.Defs.length : Int)) <;> rfl
    · rw [dcf h0]
      cases decide ((0 : Int) < (c.Defs.length : Int)) <;> rfl
theorem routine_rng {c : T_api_Code} {a : Int} (h : 0 ≤ routine c a) : 0 ≤ a ∧ a < c.Ins.length := by
  unfold routine at h
  split at h
  · assumption
  · omega
def isB (c : T_api_Code) (d a o : Int) : Bool := (routine c a == d) && (decide (0 ≤ d) && (match lAt c.Ins a with | some x => x.Op == o | none => false))
theorem is_eq (c : T_api_Code) (hd : c.Defs.length ≤ 40) (d a o : Int) : F_retraceref22_is c d a o = some (isB c d a o) := by
  unfold F_retraceref22_is isB F_retraceref22_is_J1
  rw [routine_eq c hd]
  simp only [Option.bind_some]
  by_cases h : routine c a = d
  · rw [beqt h]
    by_cases h0 : 0 ≤ d
    · obtain ⟨p, q⟩ := routine_rng (c := c) (a := a) (by omega)
      obtain ⟨y, ey, _⟩ := lAt_ok p q
      rw [dct h0, ey]
      rfl
    · rw [dcf h0]; rfl
  · rw [beqf h]; rfl
def restsB (c : T_api_Code) (d a : Int) : Bool := isB c d a 1 || isB c d a 24
theorem rests_eq (c : T_api_Code) (hd : c.Defs.length ≤ 40) (d a : Int) : F_retraceref22_Rests c d a = some (restsB c d a) := by
  unfold F_retraceref22_Rests restsB F_retraceref22_Rests_J1
  rw [is_eq c hd, is_eq c hd]
  simp only [Option.bind_some]
  cases isB c d a 1 <;> rfl
def chansN (c : T_api_Code) : Int := c.Chans.foldl (fun s x => if 0 < x.Size then w64 (s + x.Size) else w64 (s + 1)) 0
theorem chans_eq (c : T_api_Code) (hc : c.Chans.length ≤ 80) : F_retraceref22_Chans c = some (chansN c) := by
  unfold F_retraceref22_Chans chansN
  refine Loop_fold c.Chans (by omega) (fun s x => if 0 < x.Size then w64 (s + x.Size) else w64 (s + 1)) id (fun s i => (s, i)) (fun _ _ => True) (fun k hk s _ => ?_) (fun _ _ _ _ => trivial) (fun s _ => ?_) 0 trivial
  · show F_retraceref22_Chans_L2 c s (k : Int) = _
    unfold F_retraceref22_Chans_L2 F_retraceref22_Chans_J1
    rw [dct (by omega), lAt_lt hk]
    simp only [cond_true, Option.bind_some]
    by_cases e : 0 < c.Chans[k].Size
    · rw [dct e, if_pos e]; rfl
    · rw [dcf e, if_neg e]; rfl
  · show F_retraceref22_Chans_L2 c s (c.Chans.length : Int) = _
    unfold F_retraceref22_Chans_L2
    rw [dcf (by omega)]; rfl
def fromB (a b : Int) : Bool := decide (0 ≤ a) && decide (a < b)
theorem from_eq (a b : Int) : F_retraceref22_from a b = some (fromB a b) := by
  unfold F_retraceref22_from F_retraceref22_from_J1 fromB
  cases decide (0 ≤ a) <;> rfl
def altB (c : T_api_Code) (p : T_api_Proc) (a : T_api_Alt) : Bool :=
  restsB c p.Def a.Goto && (if a.Kind = 1 then fromB a.Chan (chansN c) && (fromB a.Slot p.Vars.length && a.Val == 0) else if a.Kind = 2 then fromB a.Chan (chansN c) && a.Slot == 0
    else if a.Kind = 3 then fromB a.Val 1099511627777 && (a.Chan == 0 && a.Slot == 0) else false)
theorem alt_eq (c : T_api_Code) (h : CSmall c) (p : T_api_Proc) (a : T_api_Alt) : F_retraceref22_alt c p a = some (altB c p a) := by
  unfold F_retraceref22_alt altB F_retraceref22_alt_J1 F_retraceref22_alt_J2 F_retraceref22_alt_J3
  rw [rests_eq c h.defs, chans_eq c h.chans]
  simp only [Option.bind_some, from_eq]
  cases restsB c p.Def a.Goto with
  | false => rfl
  | true =>
  simp only [Bool.not_true, cond_false, Bool.true_and]
  by_cases k1 : a.Kind = 1
  · rw [beqt k1, if_pos k1, cond_true]
    cases fromB a.Chan (chansN c) <;> cases fromB a.Slot p.Vars.length <;> rfl
  · rw [beqf k1, if_neg k1, cond_false]
    by_cases k2 : a.Kind = 2
    · rw [beqt k2, if_pos k2, cond_true]
      cases fromB a.Chan (chansN c) <;> rfl
    · rw [beqf k2, if_neg k2, cond_false]
      by_cases k3 : a.Kind = 3
      · rw [beqt k3, if_pos k3, cond_true]
        cases fromB a.Val 1099511627777 <;> cases (a.Chan == 0) <;> rfl
      · rw [beqf k3, if_neg k3, cond_false]
def modeB (c : T_api_Code) (p : T_api_Proc) : Bool :=
  if p.Mode = 0 ∨ p.Mode = 6 then isB c p.Def p.At 1 else if p.Mode = 1 then restsB c p.Def p.At && fromB p.Chan (chansN c)
  else if p.Mode = 2 then restsB c p.Def p.At && (fromB p.Chan (chansN c) && fromB p.Slot p.Vars.length) else if p.Mode = 4 then restsB c p.Def p.At && fromB p.Until 1099511627777
  else if p.Mode = 5 then p.At == 0 else if p.Mode = 3 then p.Alts.all (altB c p) && isB c p.Def p.At 1 else false
theorem j5_eq (c : T_api_Code) (h : CSmall c) (p : T_api_Proc) (hl : p.Alts.length ≤ 40) (x : Bool) (hx : x = true ↔ p.Mode = 0 ∨ p.Mode = 6) : F_retraceref22_Is_J5 c p x = some (modeB c p) := by
  unfold F_retraceref22_Is_J5 modeB F_retraceref22_Is_J6 F_retraceref22_Is_J7 F_retraceref22_Is_J8
  cases x with
  | true => rw [if_pos (hx.1 rfl), cond_true, is_eq c h.defs]; rfl
  | false =>
  rw [if_neg (fun e => by have := hx.2 e; cases this), cond_false, rests_eq c h.defs, chans_eq c h.chans]
  simp only [Option.bind_some, from_eq]
  by_cases m1 : p.Mode = 1
  · rw [beqt m1, if_pos m1, cond_true]
    cases restsB c p.Def p.At <;> rfl
  rw [beqf m1, if_neg m1, cond_false]
  by_cases m2 : p.Mode = 2
  · rw [beqt m2, if_pos m2, cond_true]
    cases restsB c p.Def p.At <;> cases fromB p.Chan (chansN c) <;> rfl
  rw [beqf m2, if_neg m2, cond_false]
  by_cases m4 : p.Mode = 4
  · rw [beqt m4, if_pos m4, cond_true]
    cases restsB c p.Def p.At <;> rfl
  rw [beqf m4, if_neg m4, cond_false]
  by_cases m5 : p.Mode = 5
  · rw [beqt m5, if_pos m5, cond_true]
  rw [beqf m5, if_neg m5, cond_false]
  by_cases m3 : p.Mode = 3
  · rw [beqt m3, if_pos m3, cond_true]
    have e := Loop_all (step := fun s : Int => F_retraceref22_Is_L9 c p s) p.Alts (by omega) (altB c p) (isB c p.Def p.At 1) false (fun k hk => ?_) ?_
    · rw [e]
      cases p.Alts.all (altB c p) <;> rfl
    · show F_retraceref22_Is_L9 c p (k : Int) = _
      unfold F_retraceref22_Is_L9
      rw [dct (by omega), lAt_lt hk]
      simp only [cond_true, Option.bind_some, alt_eq c h]
      cases altB c p p.Alts[k] <;> rfl
    · show F_retraceref22_Is_L9 c p (p.Alts.length : Int) = _
      unfold F_retraceref22_Is_L9
      rw [dcf (by omega), is_eq c h.defs]; rfl
  · rw [beqf m3, if_neg m3, cond_false]
def shapeB (p : T_api_Proc) : Bool :=
  ((p.Mode == 1 || p.Mode == 2) || p.Chan == 0) && ((p.Mode == 1 || p.Val == 0) && ((p.Mode == 2 || p.Slot == 0) && ((p.Mode == 4 || p.Until == 0) &&
    (((p.Mode == 1 || p.Mode == 2) || (p.Mode == 3 || p.Since == 0)) && (p.Mode == 3 || !decide (0 < (p.Alts.length : Int)))))))
theorem j4_eq (c : T_api_Code) (h : CSmall c) (p : T_api_Proc) (hl : p.Alts.length ≤ 40) (x : Bool) : F_retraceref22_Is_J4 c p x = some (!x && modeB c p) := by
  unfold F_retraceref22_Is_J4
  cases x with
  | true => rfl
  | false =>
  rw [cond_false]
  by_cases m0 : p.Mode = 0
  · rw [beqt m0, cond_true, j5_eq c h p hl _ (by simp [m0])]; rfl
  · rw [beqf m0, cond_false, j5_eq c h p hl _ (by simp [m0])]; rfl
theorem j3_eq (c : T_api_Code) (h : CSmall c) (p : T_api_Proc) (hl : p.Alts.length ≤ 40) (w x : Bool) :
    F_retraceref22_Is_J3 c p w x = some (!x && ((w || (p.Mode == 3 || p.Since == 0)) && ((p.Mode == 3 || !decide (0 < (p.Alts.length : Int))) && modeB c p))) := by
  unfold F_retraceref22_Is_J3
  simp only [j4_eq c h p hl, bne]
  cases x <;> cases w <;> cases (p.Mode == 3) <;> cases (p.Since == 0) <;> cases decide (0 < (p.Alts.length : Int)) <;> rfl
theorem j2_eq (c : T_api_Code) (h : CSmall c) (p : T_api_Proc) (hl : p.Alts.length ≤ 40) (w : Bool) (hw : w = (p.Mode == 1 || p.Mode == 2)) : F_retraceref22_Is_J2 c p w = some (shapeB p && modeB c p) := by
  unfold F_retraceref22_Is_J2 shapeB
  simp only [j3_eq c h p hl, bne]
  subst hw
  generalize ((p.Mode == 1 || p.Mode == 2) || (p.Mode == 3 || p.Since == 0)) = r1
  generalize (p.Mode == 3 || !decide (0 < (p.Alts.length : Int))) = r2
  generalize modeB c p = r3
  cases (p.Mode == 1) <;> cases (p.Mode == 2) <;> cases (p.Mode == 4) <;> cases (p.Chan == 0) <;> cases (p.Val == 0) <;> cases (p.Slot == 0) <;> cases (p.Until == 0) <;> simp [Bool.and_assoc]
def isPB (c : T_api_Code) (p : T_api_Proc) : Bool :=
  fromB p.Def c.Defs.length && ((match lAt c.Defs p.Def with | some d => (p.Vars.length : Int) == d.Vars | none => false) && (fromB p.Fuel 1048577 && (fromB p.Since 1099511627777 && (shapeB p && modeB c p))))
theorem isP_eq (c : T_api_Code) (h : CSmall c) (p : T_api_Proc) (hl : p.Alts.length ≤ 40) : F_retraceref22_Is c p = some (isPB c p) := by
  have j1 : ∀ x, F_retraceref22_Is_J1 c p x = some (!x && (shapeB p && modeB c p)) := fun x => by
    unfold F_retraceref22_Is_J1
    cases x with
    | true => rfl
    | false =>
    rw [cond_false]
    cases e : (p.Mode == 1) with
    | true => rw [cond_true, j2_eq c h p hl _ (by rw [e]; rfl)]; rfl
    | false => rw [cond_false, j2_eq c h p hl _ (by rw [e]; rfl)]; rfl
  unfold F_retraceref22_Is isPB
  simp only [from_eq, j1, Option.bind_some]
  cases e : fromB p.Def c.Defs.length with
  | false => rfl
  | true =>
  have : 0 ≤ p.Def ∧ p.Def < c.Defs.length := by simpa [fromB] using e
  obtain ⟨y, ey, _⟩ := lAt_ok (l := c.Defs) this.1 this.2
  rw [ey]
  simp only [Bool.not_true, cond_false, Option.bind_some, bne, Bool.true_and]
  cases ((p.Vars.length : Int) == y.Vars) <;> cases fromB p.Fuel 1048577 <;> cases fromB p.Since 1099511627777 <;> rfl

theorem lt_getq {α : Type} {l : List α} {k : Nat} {x : α} (h : l[k]? = some x) : k < l.length := (List.getElem?_eq_some_iff.mp h).1
theorem sameI_eq (a b : List Int) (hl : a.length < 1000000000) (d : Bool) (hd : d = true ↔ a = b) : F_retraceref03_Same a b = some d := by
  unfold F_retraceref03_Same
  by_cases h : a.length = b.length
  · have : (((a.length : Int)) != ((b.length : Int))) = false := by simp; omega
    rw [this, cond_false]
    refine Loop_same a b h (fun x y => (x == y)) (fun x y => by simp) (by omega) (fun k x y hx hy => ?_) ?_ d hd
    · have hk := lt_getq hx
      show F_retraceref03_Same_L1 a b (k : Int) = _
      unfold F_retraceref03_Same_L1
      rw [lAtn, lAtn, hx, hy, dct (by omega), cond_true]
      simp only [Option.bind_some, bne]
      cases (x == y) <;> rfl
    · show F_retraceref03_Same_L1 a b (a.length : Int) = _
      unfold F_retraceref03_Same_L1
      simp
  · have : (((a.length : Int)) != ((b.length : Int))) = true := by simp; omega
    rw [this, cond_true]
    cases d with
    | false => rfl
    | true => have := hd.1 rfl; subst this; exact absurd rfl h
theorem sameA_eq (a b : List T_api_Alt) (hl : a.length < 1000000000) (d : Bool) (hd : d = true ↔ a = b) : F_retraceref22_Alts a b = some d := by
  unfold F_retraceref22_Alts
  by_cases h : a.length = b.length
  · have : (((a.length : Int)) != ((b.length : Int))) = false := by simp; omega
    rw [this, cond_false]
    refine Loop_same a b h (fun x y => ((x.Kind == y.Kind) && ((x.Chan == y.Chan) && ((x.Val == y.Val) && ((x.Slot == y.Slot) && ((x.Goto == y.Goto) && true)))))) (fun x y => ?_) (by omega) (fun k x y hx hy => ?_) ?_ d hd
    · cases x; cases y; simp
    · have hk := lt_getq hx
      show F_retraceref22_Alts_L1 a b (k : Int) = _
      unfold F_retraceref22_Alts_L1
      rw [lAtn, lAtn, hx, hy, dct (by omega), cond_true]
      simp only [Option.bind_some]
      cases ((x.Kind == y.Kind) && ((x.Chan == y.Chan) && ((x.Val == y.Val) && ((x.Slot == y.Slot) && ((x.Goto == y.Goto) && true))))) <;> rfl
    · show F_retraceref22_Alts_L1 a b (a.length : Int) = _
      unfold F_retraceref22_Alts_L1
      simp
  · have : (((a.length : Int)) != ((b.length : Int))) = true := by simp; omega
    rw [this, cond_true]
    cases d with
    | false => rfl
    | true => have := hd.1 rfl; subst this; exact absurd rfl h
theorem sameP_eq (a b : T_api_Proc) (hv : a.Vars.length < 1000000000) (ha : a.Alts.length < 1000000000) (d : Bool) (hd : d = true ↔ a = b) : F_retraceref22_Same a b = some d := by
  have e1 := sameI_eq a.Vars b.Vars hv (decide (a.Vars = b.Vars)) (by simp)
  classical
  have e2 := sameA_eq a.Alts b.Alts ha (decide (a.Alts = b.Alts)) (by simp)
  have key : F_retraceref22_Same a b = some ((a.Def == b.Def) && ((a.At == b.At) && ((a.Fuel == b.Fuel) && ((a.Mode == b.Mode) && ((a.Chan == b.Chan) && ((a.Val == b.Val) && ((a.Slot == b.Slot) && ((a.Until == b.Until) && ((a.Since == b.Since) && (decide (a.Vars = b.Vars) && decide (a.Alts = b.Alts))))))))))) := by
    unfold F_retraceref22_Same F_retraceref22_Same_J1 F_retraceref22_Same_J2
    rw [e1, e2]
    simp only [bne, Option.bind_some]
    cases (a.Def == b.Def) with
    | false => rfl
    | true =>
    cases (a.At == b.At) with
    | false => rfl
    | true =>
    cases (a.Fuel == b.Fuel) with
    | false => rfl
    | true =>
    cases (a.Mode == b.Mode) with
    | false => rfl
    | true =>
    cases (a.Chan == b.Chan) with
    | false => rfl
    | true =>
    cases (a.Val == b.Val) with
    | false => rfl
    | true =>
    cases (a.Slot == b.Slot) <;> cases (a.Until == b.Until) <;> cases (a.Since == b.Since) <;> cases decide (a.Vars = b.Vars) <;> rfl
  rw [key]
  congr 1
  rw [Bool.eq_iff_iff, hd]
  cases a; cases b
  simp only [T_api_Proc.mk.injEq, Bool.and_eq_true, beq_iff_eq, decide_eq_true_eq]
  exact ⟨fun ⟨a1, a2, a3, a4, a5, a6, a7, a8, a9, b1, b2⟩ => ⟨a1, a2, b1, a3, a4, a5, a6, a7, a8, a9, b2⟩, fun ⟨a1, a2, b1, a3, a4, a5, a6, a7, a8, a9, b2⟩ => ⟨a1, a2, a3, a4, a5, a6, a7, a8, a9, b1, b2⟩⟩
theorem same_self (p : T_api_Proc) (hv : p.Vars.length < 1000000000) (ha : p.Alts.length < 1000000000) : F_retraceref22_Same p p = some true := sameP_eq p p hv ha true (by simp)

theorem settle_eq (c : T_api_Code) (hi : c.Ins.length ≤ 150) (a : Int) : F_code_Settle c a = F_retraceref20_Settle c a := by
  unfold F_code_Settle F_retraceref20_Settle
  congr 1
  funext s
  unfold F_code_Settle_L2 F_retraceref20_Settle_L2
  rw [w64i (by omega) (by omega)]
  have : decide (s.2 < (c.Ins.length : Int) + 1) = decide (s.2 ≤ (c.Ins.length : Int)) := by
    by_cases e : s.2 ≤ (c.Ins.length : Int)
    · rw [dct e, dct (by omega)]
    · rw [dcf e, dcf (by omega)]
  rw [this]
  rfl
def endB (c : T_api_Code) (n : Int) : Bool := match lAt c.Ins n with | some x => x.Op == 24 | none => false
def goesR (c : T_api_Code) (p : T_api_Proc) (n : Int) : T_api_Proc := cond (endB c n) ⟨p.Def, 0, p.Vars, p.Fuel, 5, 0, 0, 0, 0, 0, []⟩ ⟨p.Def, n, p.Vars, p.Fuel, 0, 0, 0, 0, 0, 0, []⟩
theorem endB_none {c : T_api_Code} {n : Int} (h : ¬ (0 ≤ n ∧ n < c.Ins.length)) : endB c n = false := by
  unfold endB
  split
  · rename_i e; exact absurd (lAt_rng e) h
  · rfl
theorem goes_eq (c : T_api_Code) (hi : c.Ins.length ≤ 150) (p : T_api_Proc) (hv : p.Vars.length ≤ 1000) (a : Int) :
    ∃ n, F_retraceref20_Settle c a = some n ∧ F_proc_Goes c p a = some (goesR c p n) ∧ F_retraceref22_Goes c p a = some (goesR c p n) := by
  obtain ⟨n, en, _⟩ := ok_Settle c hi a
  refine ⟨n, en, ?_, ?_⟩
  · unfold F_proc_Goes F_slices_Clone_int_int F_proc_Goes_J2 F_proc_Goes_J1
    rw [settle_eq c hi, en, grd_t (by simp; omega)]
    simp only [Option.bind_some, List.nil_append]
    by_cases h0 : 0 ≤ n
    · by_cases h1 : n < c.Ins.length
      · obtain ⟨y, ey, _⟩ := lAt_ok h0 h1
        have e : endB c n = (y.Op == 24) := by unfold endB; rw [ey]
        unfold goesR
        rw [e, ey, dct h0, dct h1]
        simp only [cond_true, Option.bind_some]
        cases (y.Op == 24) <;> rfl
      · unfold goesR
        rw [dct h0, dcf h1, endB_none (fun h => h1 h.2)]; rfl
    · unfold goesR
      rw [dcf h0, endB_none (fun h => h0 h.1)]; rfl
  · unfold F_retraceref22_Goes F_retraceref22_Goes_J1
    rw [en, grd_t (by simp; omega)]
    simp only [Option.bind_some, List.nil_append]
    by_cases h0 : 0 ≤ n
    · by_cases h1 : n < c.Ins.length
      · obtain ⟨y, ey, _⟩ := lAt_ok h0 h1
        have e : endB c n = (y.Op == 24) := by unfold endB; rw [ey]
        unfold goesR
        rw [e, ey, dct h0, dct h1]
        simp only [cond_true, Option.bind_some]
        cases (y.Op == 24) <;> rfl
      · unfold goesR
        rw [dct h0, dcf h1, endB_none (fun h => h1 h.2)]; rfl
    · unfold goesR
      rw [dcf h0, endB_none (fun h => h0 h.1)]; rfl
theorem isB_at {c : T_api_Code} {d a o : Int} (h : isB c d a o = true) : 0 ≤ a ∧ a < c.Ins.length ∧ 0 ≤ d ∧ routine c a = d ∧ ∃ x, lAt c.Ins a = some x ∧ x.Op = o := by
  unfold isB at h
  simp only [Bool.and_eq_true, beq_iff_eq, decide_eq_true_eq] at h
  obtain ⟨h1, h2, h3⟩ := h
  obtain ⟨p, q⟩ := routine_rng (c := c) (a := a) (by omega)
  refine ⟨p, q, h2, h1, ?_⟩
  split at h3
  · rename_i x e; exact ⟨x, e, by simpa using h3⟩
  · cases h3
theorem settle_rest {c : T_api_Code} (hi : c.Ins.length ≤ 150) {d a : Int} (h : restsB c d a = true) : F_retraceref20_Settle c a = some a := by
  unfold restsB at h
  have : ∃ x, 0 ≤ a ∧ a < c.Ins.length ∧ lAt c.Ins a = some x ∧ ¬ x.Op = 6 := by
    simp only [Bool.or_eq_true] at h
    rcases h with h | h
    · obtain ⟨p, q, _, _, x, e, o⟩ := isB_at h; exact ⟨x, p, q, e, by omega⟩
    · obtain ⟨p, q, _, _, x, e, o⟩ := isB_at h; exact ⟨x, p, q, e, by omega⟩
  obtain ⟨x, p, q, e, o⟩ := this
  unfold F_retraceref20_Settle
  refine Loop_inr ?_
  show F_retraceref20_Settle_L2 c a a 0 = _
  unfold F_retraceref20_Settle_L2 F_retraceref20_Settle_J1
  rw [dct (by omega), dcf (by omega), dcf (by omega), e]
  simp only [cond_true, cond_false, Option.bind_some, bne, beqf o]
  rfl
theorem isP_goes {c : T_api_Code} {p : T_api_Proc} {n : Int} (hp : isPB c p = true) (hr : restsB c p.Def n = true) : isPB c (goesR c p n) = true := by
  unfold isPB at hp
  simp only [Bool.and_eq_true] at hp
  obtain ⟨h1, h2, h3, h4, h5, h6⟩ := hp
  unfold restsB at hr
  by_cases h24 : isB c p.Def n 24 = true
  · obtain ⟨a, b, d, e, x, ex, o⟩ := isB_at h24
    have : goesR c p n = ⟨p.Def, 0, p.Vars, p.Fuel, 5, 0, 0, 0, 0, 0, []⟩ := by
      unfold goesR endB
      rw [ex]; simp [o]
    rw [this]
    unfold isPB
    simp only [h1, h3, Bool.true_and]
    rw [h2]
    rfl
  · rw [Bool.or_eq_true] at hr
    have h1' : isB c p.Def n 1 = true := hr.resolve_right h24
    obtain ⟨a, b, d, e, x, ex, o⟩ := isB_at h1'
    have : goesR c p n = ⟨p.Def, n, p.Vars, p.Fuel, 0, 0, 0, 0, 0, 0, []⟩ := by
      unfold goesR endB
      rw [ex]; simp [o]
    rw [this]
    unfold isPB
    simp only [h1, h3, Bool.true_and]
    rw [h2]
    have : modeB c ⟨p.Def, n, p.Vars, p.Fuel, 0, 0, 0, 0, 0, 0, []⟩ = true := by
      unfold modeB
      rw [if_pos (.inl rfl)]
      exact h1'
    rw [this]
    rfl
end Go.Ab
