/- What the tables of right code say of channels, plainly. -/
import Derived.Test.YtgihgmnmefbjbaaGreatZPIs
namespace Go.Ab
set_option linter.unusedVariables false

def CSz (c : T_api_Code) : Prop := ∀ x ∈ c.Chans, 0 ≤ x.Size ∧ x.Size ≤ 16
theorem l6_ok2 (c : T_api_Code) (h : CSmall c) : OkP (Loop (fun s : (Int × Int) => F_retraceref20_tables_L6 c s.1 s.2) (0, 0)) (fun b => b = true → CSz c) := by
  have hc := h.chans
  refine Loop_ok (fun s : Int × Int => 0 ≤ s.2 ∧ s.2 ≤ c.Chans.length ∧ ∀ k x, 0 ≤ k → k < s.2 → lAt c.Chans k = some x → 0 ≤ x.Size ∧ x.Size ≤ 16) (fun s : Int × Int => (c.Chans.length - s.2).toNat) (fun s ⟨a, b, g⟩ => ?_) _ ⟨by simp, by simp, fun k x p q => by have q' : k < 0 := q; omega⟩
  obtain ⟨u, i⟩ := s
  replace a : 0 ≤ i := a
  replace b : i ≤ c.Chans.length := b
  replace g : ∀ k x, 0 ≤ k → k < i → lAt c.Chans k = some x → 0 ≤ x.Size ∧ x.Size ≤ 16 := g
  let S : Int × Int → Prop := fun s' => (0 ≤ s'.2 ∧ s'.2 ≤ c.Chans.length ∧ ∀ k x, 0 ≤ k → k < s'.2 → lAt c.Chans k = some x → 0 ≤ x.Size ∧ x.Size ≤ 16) ∧ (c.Chans.length - s'.2).toNat < (c.Chans.length - i).toNat
  have j4 : ∀ v y, i < c.Chans.length → lAt c.Chans i = some y → 0 ≤ y.Size → y.Size ≤ 16 → OkP (F_retraceref20_tables_J4 i v) (Sum.elim S (fun b => b = true → CSz c)) := fun v y hv ey y0 y1 => by
    refine ⟨_, rfl, ?_⟩
    rw [w64i (by omega) (by omega)]
    show (0 ≤ i + 1 ∧ i + 1 ≤ _ ∧ ∀ k x, 0 ≤ k → k < i + 1 → lAt c.Chans k = some x → 0 ≤ x.Size ∧ x.Size ≤ 16) ∧ (c.Chans.length - (i + 1)).toNat < _
    refine ⟨⟨by omega, by omega, fun k x p q e => ?_⟩, by omega⟩
    by_cases hk : k = i
    · subst hk; rw [ey] at e; cases e; exact ⟨y0, y1⟩
    · exact g k x p (by omega) e
  have j5t : ∀ y, OkP (F_retraceref20_tables_J5 u i y true) (Sum.elim S (fun b => b = true → CSz c)) := fun y => by
    unfold F_retraceref20_tables_J5
    exact OkP.map (OkP.ret (fun h => by cases h))
  have j5 : ∀ y x, i < c.Chans.length → lAt c.Chans i = some y → 0 ≤ y.Size → y.Size ≤ 16 → OkP (F_retraceref20_tables_J5 u i y x) (Sum.elim S (fun b => b = true → CSz c)) := fun y x hv ey y0 y1 => by
    unfold F_retraceref20_tables_J5
    refine OkP.condB (fun _ => OkP.map (OkP.ret (fun h => by cases h))) (fun _ => ?_)
    exact OkP.condE (fun _ => j4 _ y hv ey y0 y1) (fun _ => j4 _ y hv ey y0 y1)
  show OkP (F_retraceref20_tables_L6 c u i) (Sum.elim S (fun b => b = true → CSz c))
  unfold F_retraceref20_tables_L6
  refine OkP.condD (fun hv => ?_) (fun hv => OkP.map (OkP.ret (fun _ x hx => ?_)))
  · refine OkP.at a hv fun y ey => OkP.bind (ok_Name _ (h.cn y (lAt_mem ey))) fun _ _ _ => ?_
    refine OkP.condN (fun _ => j5t y) (fun _ => ?_)
    refine OkP.condD (fun _ => j5t y) (fun y0 => ?_)
    refine OkP.condD (fun _ => j5t y) (fun y1 => ?_)
    refine OkP.condNE (fun _ => j5t y) (fun _ => ?_)
    exact j5 y _ hv ey (by omega) (by omega)
  · obtain ⟨k, hk, e⟩ := List.getElem_of_mem hx
    exact g k x (by omega) (by omega) (by rw [lAt_lt hk, e])
theorem l6_ok (c : T_api_Code) (h : CSmall c) : Ok (Loop (fun s : (Int × Int) => F_retraceref20_tables_L6 c s.1 s.2) (0, 0)) := (l6_ok2 c h).ok
theorem ok_tables2 (c : T_api_Code) (h : CSmall c) : OkP (F_retraceref20_tables c) (fun b => b = true → CSz c) := by
  have hi := h.ins
  have hd := h.defs
  have hc := h.chans
  have l6 := l6_ok2 c h
  have l7 : OkP (Loop (fun s : (Int) => F_retraceref20_tables_L7 c s) 0) (fun b => b = true → CSz c) := by
    refine Loop_up c.Defs.length (by omega) (fun i => True) (fun i h0 h1 hg => ?_) trivial
    let S : Int → Prop := fun j => i < c.Defs.length ∧ j = w64 (i + 1) ∧ True
    unfold F_retraceref20_tables_L7
    refine OkP.condD (fun hv => ?_) (fun hv => ?_)
    · refine OkP.at h0 hv fun y ey => ?_
      have j3 : ∀ x, OkP (F_retraceref20_tables_J3 i x) (Sum.elim S (fun b => b = true → CSz c)) := fun x => by
        unfold F_retraceref20_tables_J3
        exact OkP.condB (fun _ => OkP.map (OkP.ret (fun h => by cases h))) (fun _ => OkP.ret ⟨hv, rfl, trivial⟩)
      have j2 : ∀ x, OkP (F_retraceref20_tables_J2 i y x) (Sum.elim S (fun b => b = true → CSz c)) := fun x => by
        unfold F_retraceref20_tables_J2
        refine OkP.condB (fun _ => OkP.map (OkP.ret (fun h => by cases h))) (fun _ => ?_)
        repeat' (first | exact j3 _ | (with_reducible first | exact OkP.rett _ | refine OkP.condN (fun _ => ?_) (fun _ => ?_) | refine OkP.condD (fun _ => ?_) (fun _ => ?_) | refine OkP.condE (fun _ => ?_) (fun _ => ?_) | refine OkP.condNE (fun _ => ?_) (fun _ => ?_) | refine OkP.condB (fun _ => ?_) (fun _ => ?_) | refine OkP.map ?_ | refine OkP.ret ?_ | refine OkP.at (by omega) (by omega) (fun _ _ => ?_) | refine OkP.sat (by omega) (by omega) (fun _ _ => ?_) | assumption))
      have e1 : w64 (i - 1) = i - 1 := w64i (by omega) (by omega)
      rw [e1]
      refine OkP.condN (fun _ => ?_) (fun _ => ?_)
      · refine OkP.bind (ok_Name _ (h.dn y (lAt_mem ey))) fun _ _ _ => ?_
        repeat' (first | exact j2 _ | (with_reducible first | exact OkP.rett _ | refine OkP.condN (fun _ => ?_) (fun _ => ?_) | refine OkP.condD (fun _ => ?_) (fun _ => ?_) | refine OkP.condE (fun _ => ?_) (fun _ => ?_) | refine OkP.condNE (fun _ => ?_) (fun _ => ?_) | refine OkP.condB (fun _ => ?_) (fun _ => ?_) | refine OkP.map ?_ | refine OkP.ret ?_ | refine OkP.at (by omega) (by omega) (fun _ _ => ?_) | refine OkP.sat (by omega) (by omega) (fun _ _ => ?_) | assumption))
      · repeat' (first | exact j2 _ | (with_reducible first | exact OkP.rett _ | refine OkP.condN (fun _ => ?_) (fun _ => ?_) | refine OkP.condD (fun _ => ?_) (fun _ => ?_) | refine OkP.condE (fun _ => ?_) (fun _ => ?_) | refine OkP.condNE (fun _ => ?_) (fun _ => ?_) | refine OkP.condB (fun _ => ?_) (fun _ => ?_) | refine OkP.map ?_ | refine OkP.ret ?_ | refine OkP.at (by omega) (by omega) (fun _ _ => ?_) | refine OkP.sat (by omega) (by omega) (fun _ _ => ?_) | assumption))
    · exact OkP.map (l6.mono fun b _ hb => hb)
  have j1 : ∀ x, OkP (F_retraceref20_tables_J1 c x) (fun b => b = true → CSz c) := fun x => by
    unfold F_retraceref20_tables_J1
    exact OkP.condB (fun _ => OkP.ret (fun h => by cases h)) (fun _ => l7)
  unfold F_retraceref20_tables
  repeat' (first | exact j1 _ | (with_reducible first | exact OkP.rett _ | refine OkP.condN (fun _ => ?_) (fun _ => ?_) | refine OkP.condD (fun _ => ?_) (fun _ => ?_) | refine OkP.condE (fun _ => ?_) (fun _ => ?_) | refine OkP.condNE (fun _ => ?_) (fun _ => ?_) | refine OkP.condB (fun _ => ?_) (fun _ => ?_) | refine OkP.map ?_ | refine OkP.ret ?_ | refine OkP.at (by omega) (by omega) (fun _ _ => ?_) | refine OkP.sat (by omega) (by omega) (fun _ _ => ?_) | assumption))

theorem right_check {c : T_api_Code} (h : CSmall c) (hr : F_retraceref20_Right c = some true) : F_retraceref20_Check c = some [0, 0] := by
  unfold F_retraceref20_Right at hr
  obtain ⟨r, er, -, -⟩ := ok_Check c h
  rw [er] at hr ⊢
  simp only [Option.bind_some] at hr
  obtain ⟨-, hr⟩ := grd_some hr
  have := Option.some.inj hr
  rw [show r = [0, 0] by simpa using this]
theorem right_tables {c : T_api_Code} (h : CSmall c) (hr : F_retraceref20_Right c = some true) : F_retraceref20_tables c = some true := by
  have hc := right_check h hr
  unfold F_retraceref20_Check at hc
  obtain ⟨b, eb, -⟩ := ok_tables c h
  rw [eb] at hc ⊢
  simp only [Option.bind_some] at hc
  cases b with
  | true => rfl
  | false =>
    simp only [Bool.not_false, cond_true] at hc
    obtain ⟨-, hc⟩ := grd_some hc
    obtain ⟨-, hc⟩ := grd_some hc
    simp at hc
theorem right_sz {c : T_api_Code} (h : CSmall c) (hr : F_retraceref20_Right c = some true) : CSz c := (ok_tables2 c h).get (right_tables h hr) rfl
theorem chans_rng {c : T_api_Code} (h : CSmall c) (hz : CSz c) : 0 ≤ chansN c ∧ chansN c ≤ 1280 := by
  have key : ∀ (l : List T_api_Chan) (s : Int), (∀ x ∈ l, 0 ≤ x.Size ∧ x.Size ≤ 16) → 0 ≤ s → s + 16 * l.length ≤ 1000000 → 0 ≤ l.foldl (fun s x => if 0 < x.Size then w64 (s + x.Size) else w64 (s + 1)) s ∧ l.foldl (fun s x => if 0 < x.Size then w64 (s + x.Size) else w64 (s + 1)) s ≤ s + 16 * l.length := by
    intro l
    induction l with
    | nil => intro s _ h0 _; simp; omega
    | cons x l ih =>
      intro s hx h0 h1
      simp only [List.length_cons] at h1
      have hxx := hx x (by simp)
      simp only [List.foldl_cons, List.length_cons]
      split
      · rw [w64i (by omega) (by omega)]
        have := ih (s + x.Size) (fun y hy => hx y (by simp [hy])) (by omega) (by omega)
        omega
      · rw [w64i (by omega) (by omega)]
        have := ih (s + 1) (fun y hy => hx y (by simp [hy])) (by omega) (by omega)
        omega
  have hc := h.chans
  have := key c.Chans 0 hz (by omega) (by omega)
  unfold chansN
  omega
end Go.Ab
