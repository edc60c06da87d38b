import Derived.Test.YtgihgmnmefbjbaaGreatZPRight2
namespace Go.Ab
set_option linter.unusedVariables false
theorem ok_from (a b : Int) : Ok (F_retraceref22_from a b) := by
  have j1 : ∀ x, Ok (F_retraceref22_from_J1 x) := fun x => OkP.rett _
  unfold F_retraceref22_from; repeat' (first | exact j1 _ | (with_reducible first | exact OkP.rett _ | refine OkP.condN (fun _ => ?_) (fun _ => ?_) | refine OkP.condD (fun _ => ?_) (fun _ => ?_) | refine OkP.condE (fun _ => ?_) (fun _ => ?_) | refine OkP.condNE (fun _ => ?_) (fun _ => ?_) | refine OkP.condB (fun _ => ?_) (fun _ => ?_) | refine OkP.map ?_ | refine OkP.ret ?_ | refine OkP.at (by omega) (by omega) (fun _ _ => ?_) | refine OkP.sat (by omega) (by omega) (fun _ _ => ?_) | assumption))
theorem ok_Routine (c : T_api_Code) (h : CSmall c) (p : Int) : OkP (F_retraceref20_Routine c p) (fun r => 0 ≤ r → 0 ≤ p ∧ p < c.Ins.length) := by
  have hd := h.defs
  unfold F_retraceref20_Routine
  refine Loop_ok (fun s : Int × Int => 0 ≤ s.2 ∧ s.2 ≤ c.Defs.length ∧ (0 ≤ s.1 → 0 ≤ p ∧ p < c.Ins.length)) (fun s : Int × Int => (c.Defs.length - s.2).toNat) (fun s ⟨a, b, l⟩ => ?_) _ ⟨Int.le_refl _, by show (0 : Int) ≤ _; omega, fun h => by have h' : (0 : Int) ≤ -1 := h; omega⟩
  obtain ⟨u, i⟩ := s
  replace a : 0 ≤ i := a
  replace b : i ≤ c.Defs.length := b
  replace l : 0 ≤ u → 0 ≤ p ∧ p < c.Ins.length := l
  show OkP (F_retraceref20_Routine_L3 c p u i) _
  have j2 : ∀ v, i < c.Defs.length → (0 ≤ v → 0 ≤ p ∧ p < c.Ins.length) → OkP (F_retraceref20_Routine_J2 i v) (Sum.elim (fun s' : Int × Int => (0 ≤ s'.2 ∧ s'.2 ≤ c.Defs.length ∧ (0 ≤ s'.1 → 0 ≤ p ∧ p < c.Ins.length)) ∧ (c.Defs.length - s'.2).toNat < (c.Defs.length - i).toNat) (fun r => 0 ≤ r → 0 ≤ p ∧ p < c.Ins.length)) := fun v hv hp => by
    unfold F_retraceref20_Routine_J2
    rw [w64i (by omega) (by omega)]
    refine OkP.ret ⟨⟨?_, ?_, hp⟩, ?_⟩
    · show 0 ≤ i + 1; omega
    · show i + 1 ≤ _; omega
    · show (c.Defs.length - (i + 1)).toNat < _; omega
  have j1 : ∀ x, (x = true → i < c.Defs.length ∧ 0 ≤ p ∧ p < c.Ins.length) → OkP (F_retraceref20_Routine_J1 c p u i x) (Sum.elim (fun s' : Int × Int => (0 ≤ s'.2 ∧ s'.2 ≤ c.Defs.length ∧ (0 ≤ s'.1 → 0 ≤ p ∧ p < c.Ins.length)) ∧ (c.Defs.length - s'.2).toNat < (c.Defs.length - i).toNat) (fun r => 0 ≤ r → 0 ≤ p ∧ p < c.Ins.length)) := fun x hx => by
    unfold F_retraceref20_Routine_J1
    refine OkP.condB (fun e => ?_) (fun _ => OkP.map (OkP.ret l))
    obtain ⟨q1, q2⟩ := hx e
    exact OkP.at a q1 fun y _ => OkP.condD (fun _ => j2 _ q1 fun _ => q2) (fun _ => j2 _ q1 fun _ => q2)
  unfold F_retraceref20_Routine_L3
  refine OkP.condD (fun h1 => OkP.condD (fun h2 => j1 _ fun e => ?_) (fun _ => j1 _ fun h => by cases h)) (fun _ => j1 _ fun h => by cases h)
  exact ⟨h1, h2, by simpa using e⟩
theorem ok_is (c : T_api_Code) (h : CSmall c) (d a o : Int) : Ok (F_retraceref22_is c d a o) := by
  have j1 : ∀ x, Ok (F_retraceref22_is_J1 x) := fun x => OkP.rett _
  unfold F_retraceref22_is
  refine OkP.bind (ok_Routine c h a) fun r _ hr => ?_
  refine OkP.condE (fun e => OkP.condD (fun e2 => ?_) (fun _ => j1 _)) (fun _ => j1 _)
  obtain ⟨p, q⟩ := hr (by omega)
  exact OkP.at p q fun _ _ => j1 _
theorem ok_PRests (c : T_api_Code) (h : CSmall c) (d a : Int) : Ok (F_retraceref22_Rests c d a) := by
  have j1 : ∀ x, Ok (F_retraceref22_Rests_J1 x) := fun x => OkP.rett _
  unfold F_retraceref22_Rests
  exact OkP.bind (ok_is c h _ _ _) fun _ _ _ => OkP.condB (fun _ => j1 _) (fun _ => OkP.bind (ok_is c h _ _ _) fun _ _ _ => j1 _)
theorem ok_Chans (c : T_api_Code) (h : CSmall c) : Ok (F_retraceref22_Chans c) := by
  have hc := h.chans
  unfold F_retraceref22_Chans
  refine Loop_ok (fun s : Int × Int => 0 ≤ s.2 ∧ s.2 ≤ c.Chans.length) (fun s : Int × Int => (c.Chans.length - s.2).toNat) (fun s ⟨a, b⟩ => ?_) _ ⟨Int.le_refl _, by show (0 : Int) ≤ _; omega⟩
  obtain ⟨u, i⟩ := s
  replace a : 0 ≤ i := a
  replace b : i ≤ c.Chans.length := b
  show OkP (F_retraceref22_Chans_L2 c u i) _
  have j1 : ∀ v, i < c.Chans.length → OkP (F_retraceref22_Chans_J1 i v) (Sum.elim (fun s' : Int × Int => (0 ≤ s'.2 ∧ s'.2 ≤ c.Chans.length) ∧ (c.Chans.length - s'.2).toNat < (c.Chans.length - i).toNat) (fun _ => True)) := fun v hv => by
    unfold F_retraceref22_Chans_J1
    rw [w64i (by omega) (by omega)]
    refine OkP.ret ⟨⟨?_, ?_⟩, ?_⟩
    · show 0 ≤ i + 1; omega
    · show i + 1 ≤ _; omega
    · show (c.Chans.length - (i + 1)).toNat < _; omega
  unfold F_retraceref22_Chans_L2
  refine OkP.condD (fun hv => ?_) (fun _ => OkP.map (OkP.ret trivial))
  repeat' (first | exact j1 _ hv | (with_reducible first | exact OkP.rett _ | refine OkP.condN (fun _ => ?_) (fun _ => ?_) | refine OkP.condD (fun _ => ?_) (fun _ => ?_) | refine OkP.condE (fun _ => ?_) (fun _ => ?_) | refine OkP.condNE (fun _ => ?_) (fun _ => ?_) | refine OkP.condB (fun _ => ?_) (fun _ => ?_) | refine OkP.map ?_ | refine OkP.ret ?_ | refine OkP.at (by omega) (by omega) (fun _ _ => ?_) | refine OkP.sat (by omega) (by omega) (fun _ _ => ?_) | assumption))
theorem ok_alt (c : T_api_Code) (h : CSmall c) (p : T_api_Proc) (a : T_api_Alt) : Ok (F_retraceref22_alt c p a) := by
  have j1 : ∀ x, Ok (F_retraceref22_alt_J1 x) := fun x => OkP.rett _
  have j2 : ∀ x, Ok (F_retraceref22_alt_J2 x) := fun x => OkP.rett _
  have j3 : ∀ x, Ok (F_retraceref22_alt_J3 x) := fun x => OkP.rett _
  unfold F_retraceref22_alt
  repeat' (first | exact j1 _ | exact j2 _ | exact j3 _ | refine OkP.bind (ok_PRests c h _ _) (fun _ _ _ => ?_) | refine OkP.bind (ok_Chans c h) (fun _ _ _ => ?_) | refine OkP.bind (ok_from _ _) (fun _ _ _ => ?_) | (with_reducible first | exact OkP.rett _ | refine OkP.condN (fun _ => ?_) (fun _ => ?_) | refine OkP.condD (fun _ => ?_) (fun _ => ?_) | refine OkP.condE (fun _ => ?_) (fun _ => ?_) | refine OkP.condNE (fun _ => ?_) (fun _ => ?_) | refine OkP.condB (fun _ => ?_) (fun _ => ?_) | refine OkP.map ?_ | refine OkP.ret ?_ | refine OkP.at (by omega) (by omega) (fun _ _ => ?_) | refine OkP.sat (by omega) (by omega) (fun _ _ => ?_) | assumption))
theorem ok_Is (c : T_api_Code) (h : CSmall c) (p : T_api_Proc) (ha : p.Alts.length ≤ 40) : Ok (F_retraceref22_Is c p) := by
  have j6 : ∀ x, Ok (F_retraceref22_Is_J6 x) := fun x => OkP.rett _
  have j7 : ∀ x, Ok (F_retraceref22_Is_J7 x) := fun x => OkP.rett _
  have j8 : ∀ x, Ok (F_retraceref22_Is_J8 x) := fun x => OkP.rett _
  have l9 : Ok (Loop (fun s : (Int) => F_retraceref22_Is_L9 c p s) 0) := by
    refine Loop_up p.Alts.length (by omega) (fun _ => True) (fun i h0 h1 _ => ?_) trivial
    unfold F_retraceref22_Is_L9
    refine OkP.condD (fun hv => ?_) (fun _ => OkP.map ((OkP.bind (ok_is c h _ _ _) fun _ _ _ => OkP.rett _)))
    refine OkP.at h0 hv fun y _ => OkP.bind (ok_alt c h _ _) fun _ _ _ => ?_
    exact OkP.condN (fun _ => OkP.map (OkP.ret trivial)) (fun _ => OkP.ret ⟨hv, rfl, trivial⟩)
  have j5 : ∀ x, Ok (F_retraceref22_Is_J5 c p x) := fun x => by
    unfold F_retraceref22_Is_J5
    repeat' (first | exact j6 _ | exact j7 _ | exact j8 _ | exact l9 | refine OkP.bind (ok_PRests c h _ _) (fun _ _ _ => ?_) | refine OkP.bind (ok_Chans c h) (fun _ _ _ => ?_) | refine OkP.bind (ok_from _ _) (fun _ _ _ => ?_) | refine OkP.bind (ok_is c h _ _ _) (fun _ _ _ => ?_) | (with_reducible first | exact OkP.rett _ | refine OkP.condN (fun _ => ?_) (fun _ => ?_) | refine OkP.condD (fun _ => ?_) (fun _ => ?_) | refine OkP.condE (fun _ => ?_) (fun _ => ?_) | refine OkP.condNE (fun _ => ?_) (fun _ => ?_) | refine OkP.condB (fun _ => ?_) (fun _ => ?_) | refine OkP.map ?_ | refine OkP.ret ?_ | refine OkP.at (by omega) (by omega) (fun _ _ => ?_) | refine OkP.sat (by omega) (by omega) (fun _ _ => ?_) | assumption))
  have j4 : ∀ x, Ok (F_retraceref22_Is_J4 c p x) := fun x => by
    unfold F_retraceref22_Is_J4; repeat' (first | exact j5 _ | (with_reducible first | exact OkP.rett _ | refine OkP.condN (fun _ => ?_) (fun _ => ?_) | refine OkP.condD (fun _ => ?_) (fun _ => ?_) | refine OkP.condE (fun _ => ?_) (fun _ => ?_) | refine OkP.condNE (fun _ => ?_) (fun _ => ?_) | refine OkP.condB (fun _ => ?_) (fun _ => ?_) | refine OkP.map ?_ | refine OkP.ret ?_ | refine OkP.at (by omega) (by omega) (fun _ _ => ?_) | refine OkP.sat (by omega) (by omega) (fun _ _ => ?_) | assumption))
  have j3 : ∀ y x, Ok (F_retraceref22_Is_J3 c p y x) := fun y x => by
    unfold F_retraceref22_Is_J3; repeat' (first | exact j4 _ | (with_reducible first | exact OkP.rett _ | refine OkP.condN (fun _ => ?_) (fun _ => ?_) | refine OkP.condD (fun _ => ?_) (fun _ => ?_) | refine OkP.condE (fun _ => ?_) (fun _ => ?_) | refine OkP.condNE (fun _ => ?_) (fun _ => ?_) | refine OkP.condB (fun _ => ?_) (fun _ => ?_) | refine OkP.map ?_ | refine OkP.ret ?_ | refine OkP.at (by omega) (by omega) (fun _ _ => ?_) | refine OkP.sat (by omega) (by omega) (fun _ _ => ?_) | assumption))
  have j2 : ∀ x, Ok (F_retraceref22_Is_J2 c p x) := fun x => by
    unfold F_retraceref22_Is_J2; repeat' (first | exact j3 _ _ | (with_reducible first | exact OkP.rett _ | refine OkP.condN (fun _ => ?_) (fun _ => ?_) | refine OkP.condD (fun _ => ?_) (fun _ => ?_) | refine OkP.condE (fun _ => ?_) (fun _ => ?_) | refine OkP.condNE (fun _ => ?_) (fun _ => ?_) | refine OkP.condB (fun _ => ?_) (fun _ => ?_) | refine OkP.map ?_ | refine OkP.ret ?_ | refine OkP.at (by omega) (by omega) (fun _ _ => ?_) | refine OkP.sat (by omega) (by omega) (fun _ _ => ?_) | assumption))
  have j1 : ∀ x, Ok (F_retraceref22_Is_J1 c p x) := fun x => by
    unfold F_retraceref22_Is_J1; repeat' (first | exact j2 _ | (with_reducible first | exact OkP.rett _ | refine OkP.condN (fun _ => ?_) (fun _ => ?_) | refine OkP.condD (fun _ => ?_) (fun _ => ?_) | refine OkP.condE (fun _ => ?_) (fun _ => ?_) | refine OkP.condNE (fun _ => ?_) (fun _ => ?_) | refine OkP.condB (fun _ => ?_) (fun _ => ?_) | refine OkP.map ?_ | refine OkP.ret ?_ | refine OkP.at (by omega) (by omega) (fun _ _ => ?_) | refine OkP.sat (by omega) (by omega) (fun _ _ => ?_) | assumption))
  unfold F_retraceref22_Is
  refine OkP.bind (Q := fun b => b = true → 0 ≤ p.Def ∧ p.Def < c.Defs.length) ?_ fun b _ hb => ?_
  · unfold F_retraceref22_from F_retraceref22_from_J1
    exact OkP.condD (fun e => OkP.ret fun e2 => ⟨e, by simpa using e2⟩) (fun _ => OkP.ret fun h => by cases h)
  refine OkP.condN (fun _ => j1 _) fun hbt => ?_
  obtain ⟨q1, q2⟩ := hb hbt
  repeat' (first | exact j1 _ | refine OkP.bind (ok_from _ _) (fun _ _ _ => ?_) | (with_reducible first | exact OkP.rett _ | refine OkP.condN (fun _ => ?_) (fun _ => ?_) | refine OkP.condD (fun _ => ?_) (fun _ => ?_) | refine OkP.condE (fun _ => ?_) (fun _ => ?_) | refine OkP.condNE (fun _ => ?_) (fun _ => ?_) | refine OkP.condB (fun _ => ?_) (fun _ => ?_) | refine OkP.map ?_ | refine OkP.ret ?_ | refine OkP.at (by omega) (by omega) (fun _ _ => ?_) | refine OkP.sat (by omega) (by omega) (fun _ _ => ?_) | assumption))
structure PSmall (c : T_api_Code) (ps : List T_api_Proc) : Prop where
  sm : CSmall c
  gd : CGood c
  len : ps.length ≤ 20
  each : ∀ p ∈ ps, p.Alts.length ≤ 40 ∧ p.Vars.length ≤ 40 ∧ F_retraceref22_Is c p = some true
/-- a loop that seeks the first place where p holds -/
theorem Loop_find {α R : Type} (l : List α) (hl : l.length < 9223372036854775808) (p : α → Bool) (found : Nat → R) (no : R) {step : Int → Option (Int ⊕ R)}
    (h1 : ∀ k (h : k < l.length), step (k : Int) = if p l[k] = true then some (.inr (found k)) else some (.inl (w64 (k + 1)))) (h2 : step (l.length : Int) = some (.inr no)) :
    Loop step 0 = some (match l.findIdx? p with | some k => found k | none => no) := by
  cases e : l.findIdx? p with
  | none =>
    rw [List.findIdx?_eq_none_iff] at e
    refine Loop_nat (fun k => (k : Int)) l.length (fun k hk => ?_) h2
    rw [h1 k hk, if_neg (by rw [e _ (List.getElem_mem hk)]; decide), w64i (by omega) (by omega)]
    rfl
  | some n =>
    rw [List.findIdx?_eq_some_iff_getElem] at e
    obtain ⟨hn, e1, e2⟩ := e
    refine Loop_nat (fun k => (k : Int)) n (fun k hk => ?_) ?_
    · rw [h1 k (by omega), if_neg (by simpa using e2 k hk), w64i (by omega) (by omega)]
      rfl
    · rw [h1 n hn, if_pos e1]
end Go.Ab
