/- What right code's routines are, plainly. -/
import Derived.Test.YtgihgmnmefbjbaaGreatZChk
namespace Go.Ab
set_option linter.unusedVariables false

def DefOK (c : T_api_Code) (k : Int) : Prop := ∀ d, lAt c.Defs k = some d → (0 ≤ d.Params ∧ d.Params ≤ d.Vars ∧ d.Vars ≤ 16) ∧ (0 < k → ∀ d', lAt c.Defs (k - 1) = some d' → d'.Entry < d.Entry)
theorem ok_tables3 (c : T_api_Code) (h : CSmall c) : OkP (F_retraceref20_tables c) (fun b => b = true → ∀ k : Int, 0 ≤ k → k < c.Defs.length → DefOK c k) := by
  have hi := h.ins
  have hd := h.defs
  have hc := h.chans
  let Q : Bool → Prop := fun b => b = true → ∀ k : Int, 0 ≤ k → k < c.Defs.length → DefOK c k
  have l7 : OkP (Loop (fun s : (Int) => F_retraceref20_tables_L7 c s) 0) Q := by
    refine Loop_up c.Defs.length (by omega) (fun i => ∀ k : Int, 0 ≤ k → k < i → DefOK c k) (fun i h0 h1 hg => ?_) (fun k a b => by omega)
    let S : Int → Prop := fun j => i < c.Defs.length ∧ j = w64 (i + 1) ∧ ∀ k : Int, 0 ≤ k → k < i + 1 → DefOK c k
    show OkP (F_retraceref20_tables_L7 c i) (Sum.elim S Q)
    unfold F_retraceref20_tables_L7
    refine OkP.condD (fun hv => ?_) (fun hv => ?_)
    · refine OkP.at h0 hv fun y ey => ?_
      let Adj : Prop := 0 < i → ∀ d', lAt c.Defs (i - 1) = some d' → d'.Entry < y.Entry
      have j2 : ∀ x, (x = false → Adj) → OkP (F_retraceref20_tables_J2 i y x) (Sum.elim S Q) := fun x ha => by
        unfold F_retraceref20_tables_J2
        have no : OkP (F_retraceref20_tables_J3 i true) (Sum.elim S Q) := by
          unfold F_retraceref20_tables_J3
          exact OkP.map (OkP.ret (fun h => by cases h))
        refine OkP.condB (fun _ => OkP.map (OkP.ret (fun h => by cases h))) (fun hx => ?_)
        refine OkP.condD (fun _ => no) (fun a1 => OkP.condD (fun _ => no) (fun a2 => ?_))
        unfold F_retraceref20_tables_J3
        refine OkP.condD (fun _ => OkP.map (OkP.ret (fun h => by cases h))) (fun a3 => OkP.ret ⟨hv, rfl, fun k p q => ?_⟩)
        by_cases hk : k = i
        · subst hk
          intro d e
          rw [ey] at e; cases e
          exact ⟨⟨by omega, by omega, by omega⟩, ha hx⟩
        · exact hg k p (by omega)
      have j2t : OkP (F_retraceref20_tables_J2 i y true) (Sum.elim S Q) := j2 true (fun e => by cases e)
      have e1 : w64 (i - 1) = i - 1 := w64i (by omega) (by omega)
      rw [e1]
      have kz : OkP (cond (decide (0 < i)) ((lAt c.Defs (i - 1)).bind fun z => F_retraceref20_tables_J2 i y (decide (y.Entry ≤ z.Entry))) (F_retraceref20_tables_J2 i y false)) (Sum.elim S Q) :=
        OkP.condD (fun hi0 => OkP.at (by omega) (by omega) fun z ez => j2 _ (fun e _ d' e' => by rw [ez] at e'; cases e'; simpa using e)) (fun hi0 => j2 _ (fun _ h => absurd h hi0))
      have kk : OkP (cond (decide (y.Entry < 0)) (F_retraceref20_tables_J2 i y true) (cond (decide ((c.Ins.length : Int) ≤ y.Entry)) (F_retraceref20_tables_J2 i y true) (cond (i == 0) (cond (y.Entry != 0) (F_retraceref20_tables_J2 i y true) (cond (decide (0 < i)) ((lAt c.Defs (i - 1)).bind fun z => F_retraceref20_tables_J2 i y (decide (y.Entry ≤ z.Entry))) (F_retraceref20_tables_J2 i y false))) (cond (decide (0 < i)) ((lAt c.Defs (i - 1)).bind fun z => F_retraceref20_tables_J2 i y (decide (y.Entry ≤ z.Entry))) (F_retraceref20_tables_J2 i y false))))) (Sum.elim S Q) :=
        OkP.condD (fun _ => j2t) fun _ => OkP.condD (fun _ => j2t) fun _ => OkP.condE (fun _ => OkP.condNE (fun _ => j2t) (fun _ => kz)) (fun _ => kz)
      refine OkP.condN (fun _ => ?_) (fun _ => kk)
      refine OkP.bind (ok_Name _ (h.dn y (lAt_mem ey))) fun _ _ _ => ?_
      exact OkP.condN (fun _ => j2t) (fun _ => kk)
    · obtain ⟨r, er, _⟩ := ok_tables2 c h
      have l6 : Ok (Loop (fun s : (Int × Int) => F_retraceref20_tables_L6 c s.1 s.2) (0, 0)) := l6_ok c h
      exact OkP.map (l6.mono fun b _ _ _ k p q => hg k p (by omega))
  have j1 : ∀ x, OkP (F_retraceref20_tables_J1 c x) Q := fun x => by
    unfold F_retraceref20_tables_J1
    exact OkP.condB (fun _ => OkP.ret (fun h => by cases h)) (fun _ => l7)
  show OkP (F_retraceref20_tables c) Q
  unfold F_retraceref20_tables
  repeat' (first | exact j1 _ | (with_reducible first | exact OkP.rett _ | refine OkP.condN (fun _ => ?_) (fun _ => ?_) | refine OkP.condD (fun _ => ?_) (fun _ => ?_) | refine OkP.condE (fun _ => ?_) (fun _ => ?_) | refine OkP.condNE (fun _ => ?_) (fun _ => ?_) | refine OkP.condB (fun _ => ?_) (fun _ => ?_) | refine OkP.map ?_ | refine OkP.ret ?_ | refine OkP.at (by omega) (by omega) (fun _ _ => ?_) | refine OkP.sat (by omega) (by omega) (fun _ _ => ?_) | assumption))

theorem right_def {c : T_api_Code} (h : CSmall c) (hr : F_retraceref20_Right c = some true) : ∀ k : Int, 0 ≤ k → k < c.Defs.length → DefOK c k := (ok_tables3 c h).get (right_tables h hr) rfl
theorem right_good {c : T_api_Code} (h : CSmall c) (hr : F_retraceref20_Right c = some true) : CGood c := (ok_Right c h).get hr rfl
/-- Routines come one behind the other. -/
theorem entry_lt {c : T_api_Code} (hD : ∀ k : Int, 0 ≤ k → k < c.Defs.length → DefOK c k) : ∀ (m k : Nat) (hk : k + 1 + m < c.Defs.length), c.Defs[k].Entry < c.Defs[k + 1 + m].Entry
  | 0, k, hk => (hD ((k + 1 : Nat) : Int) (by omega) (by omega) _ (lAt_lt (by omega))).2 (by omega) _ (by rw [show ((k + 1 : Nat) : Int) - 1 = (k : Int) by omega]; exact lAt_lt (by omega))
  | m + 1, k, hk => by
    have h1 := entry_lt hD m k (by omega)
    have h2 := (hD ((k + 1 + (m + 1) : Nat) : Int) (by omega) (by omega) _ (lAt_lt hk)).2 (by omega) c.Defs[k + 1 + m] (by rw [show ((k + 1 + (m + 1) : Nat) : Int) - 1 = ((k + 1 + m : Nat) : Int) by omega]; exact lAt_lt (by omega))
    omega
theorem to_gt {c : T_api_Code} (h : CSmall c) (hg : CGood c) (hD : ∀ k : Int, 0 ≤ k → k < c.Defs.length → DefOK c k) {i : Int} {y : T_api_Def} {T : Int} (ey : lAt c.Defs i = some y) (eT : F_retraceref20_To c i = some T) : y.Entry < T := by
  have hr := lAt_rng ey
  have hd := h.defs
  unfold F_retraceref20_To at eT
  rw [w64i (by omega) (by omega)] at eT
  by_cases e : i + 1 < c.Defs.length
  · rw [dct e, cond_true] at eT
    obtain ⟨z, ez, _⟩ := lAt_ok (l := c.Defs) (i := i + 1) (by omega) e
    rw [ez] at eT
    have := Option.some.inj eT
    have h2 := (hD (i + 1) (by omega) e z ez).2 (by omega) y (by rw [show i + 1 - 1 = i by omega]; exact ey)
    omega
  · rw [dcf e, cond_false] at eT
    have := Option.some.inj eT
    have := hg y (lAt_mem ey)
    omega
theorem may_entry {c : T_api_Code} {d p k : Int} {y4 : T_api_Ins} {y5 : T_api_Def} {y6 : Int} (e4 : lAt c.Ins p = some y4) (e5 : lAt c.Defs d = some y5) (e6 : F_retraceref20_To c d = some y6) (hp : p = y5.Entry) (n1 : ¬ y4.Op = 1) (n24 : ¬ y4.Op = 24) : F_retraceref20_may c d p k = some false := by
  have j1 : ∀ x, F_retraceref20_may_J1 c d p k y4 y5 y6 x = some false := fun x => by
    unfold F_retraceref20_may_J1 F_retraceref20_may_J2
    cases x with
    | true => rfl
    | false => rw [cond_false, beqt hp]; simp only [bne, beqf n1, beqf n24]; rfl
  unfold F_retraceref20_may
  obtain ⟨b, eb, _⟩ := ok_IRight y4
  rw [e4, e5, e6]
  simp only [Option.bind_some, eb, j1]
  cases b <;> cases (y4.Op == 24) <;> cases (p != w64 (y6 - 1)) <;> cases (y4.Op != 24) <;> rfl
end Go.Ab
