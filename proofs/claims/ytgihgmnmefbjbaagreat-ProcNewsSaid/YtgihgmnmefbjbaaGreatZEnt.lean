/- What stands at the beginning of right code's routines, plainly. -/
import Derived.Test.YtgihgmnmefbjbaaGreatZTab
namespace Go.Ab
set_option linter.unusedVariables false
def EG (c : T_api_Code) (d : Int) : Prop := ∀ y x, lAt c.Defs d = some y → lAt c.Ins y.Entry = some x → x.Op = 1 ∨ x.Op = 24
theorem ok_Check2 (c : T_api_Code) (h : CSmall c) : OkP (F_retraceref20_Check c) (fun r => r = [0, 0] → ∀ d : Int, 0 ≤ d → d < c.Defs.length → EG c d) := by
  have hi := h.ins
  have hd := h.defs
  unfold F_retraceref20_Check
  refine OkP.bind (ok_tables c h) fun b eb hb => ?_
  refine OkP.condN (fun _ => OkP.grd (by simp) (OkP.grd rfl (OkP.ret (fun h => by simp at h)))) fun hbt => ?_
  have hg := hb hbt
  have hD := (ok_tables3 c h).get eb hbt
  let TD : Int → Prop := fun d => ∀ y T at' ins t, lAt c.Defs d = some y → F_retraceref20_To c d = some T → y.Entry ≤ at' → at' < T → lAt c.Ins at' = some ins → F_retraceref20_target ins = some (t, true) → 0 ≤ t ∧ t < c.Ins.length
  let I : Int × Int → Prop := fun s => 0 ≤ s.2 ∧ s.2 ≤ c.Defs.length ∧ (∀ d, 0 ≤ d → d < s.2 → TD d) ∧ ∀ d, 0 ≤ d → d < s.2 → EG c d
  let m : Int × Int → Nat := fun s => (c.Defs.length - s.2).toNat
  refine Loop_ok I m (fun s ⟨a, b, l, le⟩ => ?_) _ ⟨Int.le_refl _, by show (0 : Int) ≤ _; omega, fun d p q => by have q' : d < 0 := q; omega, fun d p q => by have q' : d < 0 := q; omega⟩
  obtain ⟨u, i⟩ := s
  replace a : 0 ≤ i := a
  replace b : i ≤ c.Defs.length := b
  replace l : ∀ d, 0 ≤ d → d < i → TD d := l
  replace le : ∀ d, 0 ≤ d → d < i → EG c d := le
  show OkP (F_retraceref20_Check_L4 c u i) _
  unfold F_retraceref20_Check_L4
  refine OkP.condD (fun hv => ?_) (fun hv => ?_)
  · refine OkP.at a hv fun y ey => ?_
    have hE := hg y (lAt_mem ey)
    refine Loop_ok (fun s : Int × Int => y.Entry ≤ s.2 ∧ s.2 ≤ c.Ins.length ∧ (y.Entry < s.2 → EG c i) ∧ ∀ at' ins t, y.Entry ≤ at' → at' < s.2 → (lAt c.Ins at' = some ins → F_retraceref20_target ins = some (t, true) → 0 ≤ t ∧ t < c.Ins.length)) (fun s : Int × Int => (c.Ins.length - s.2).toNat) (fun s ⟨a2, b2, l3, l2⟩ => ?_) _ ⟨Int.le_refl _, by show y.Entry ≤ _; omega, fun q => by have q' : y.Entry < y.Entry := q; omega, fun at' ins t p q => by have q' : at' < y.Entry := q; omega⟩
    obtain ⟨v, j⟩ := s
    replace a2 : y.Entry ≤ j := a2
    replace b2 : j ≤ c.Ins.length := b2
    replace l3 : y.Entry < j → EG c i := l3
    show OkP (F_retraceref20_Check_L2 c i v j) _
    unfold F_retraceref20_Check_L2
    refine OkP.bind (ok_To c h hg i a hv) fun T eT hT => ?_
    refine OkP.condD (fun hj => ?_) (fun hj => ?_)
    · refine OkP.bind (ok_may c h hg i a hv j v (by omega) (by omega)) fun mb emb hmb => ?_
      refine OkP.condN (fun _ => OkP.grd (by simp) (OkP.map (OkP.map (OkP.grd rfl (OkP.ret (fun h => by simp at h)))))) fun hmt => ?_
      refine OkP.at (by omega) (by omega) fun z ez => ?_
      have j1 : ∀ x, OkP (F_retraceref20_Check_J1 j x) (Sum.elim (fun s' : Int × Int => (y.Entry ≤ s'.2 ∧ s'.2 ≤ c.Ins.length ∧ (y.Entry < s'.2 → EG c i) ∧ ∀ at' ins t, y.Entry ≤ at' → at' < s'.2 → lAt c.Ins at' = some ins → F_retraceref20_target ins = some (t, true) → 0 ≤ t ∧ t < c.Ins.length) ∧ (c.Ins.length - s'.2).toNat < (c.Ins.length - j).toNat) (Sum.elim (fun s' => I s' ∧ m s' < m (u, i)) (fun r => r = [0, 0] → ∀ d : Int, 0 ≤ d → d < c.Defs.length → EG c d))) := fun x => by
        unfold F_retraceref20_Check_J1
        rw [w64i (n := j + 1) (by omega) (by omega)]
        refine OkP.ret ⟨⟨?_, ?_, ?_, ?_⟩, ?_⟩
        · show y.Entry ≤ j + 1; omega
        · show j + 1 ≤ _; omega
        · intro _
          by_cases hj2 : y.Entry < j
          · exact l3 hj2
          · have hje : j = y.Entry := by omega
            intro y' x e1 e2
            rw [ey] at e1; cases e1
            by_cases n1 : x.Op = 1
            · exact .inl n1
            · by_cases n24 : x.Op = 24
              · exact .inr n24
              · rw [may_entry (k := v) (by rw [hje]; exact e2) ey eT hje n1 n24] at emb
                have := Option.some.inj emb
                rw [hmt] at this; cases this
        · intro at' ins t p q e1 e2
          have q' : at' < j + 1 := q
          by_cases hq : at' = j
          · subst hq; exact hmb hmt ins t e1 e2
          · exact l2 at' ins t p (by show at' < j; omega) e1 e2
        · show (c.Ins.length - (j + 1)).toNat < _; omega
      exact OkP.condE (fun _ => j1 _) (fun _ => j1 _)
    · refine OkP.map (OkP.ret ?_)
      rw [w64i (n := i + 1) (by omega) (by omega)]
      have hTg := to_gt h hg hD ey eT
      refine ⟨⟨?_, ?_, ?_, ?_⟩, ?_⟩
      · show 0 ≤ i + 1; omega
      · show i + 1 ≤ _; omega
      · intro d p q
        have q' : d < i + 1 := q
        by_cases hq : d = i
        · subst hq
          intro y' T' at' ins t e1 e2 p1 p2
          rw [ey] at e1; cases e1
          rw [eT] at e2; cases e2
          exact l2 at' ins t p1 (by show at' < j; omega)
        · exact l d p (by omega)
      · intro d p q
        have q' : d < i + 1 := q
        by_cases hq : d = i
        · subst hq; exact l3 (by omega)
        · exact le d p (by omega)
      · show (c.Defs.length - (i + 1)).toNat < (c.Defs.length - i).toNat; omega
  · refine OkP.map ?_
    refine OkP.condNE (fun _ => OkP.grd (by simp) (OkP.grd rfl (OkP.ret (fun h => by simp at h)))) fun _ => ?_
    refine Loop_up c.Defs.length (by omega) (fun _ => True) (fun k h0 h1 _ => ?_) trivial
    unfold F_retraceref20_Check_L3
    refine OkP.condD (fun hk => ?_) (fun _ => OkP.map (OkP.grd (by simp) (OkP.grd rfl (OkP.ret (fun _ d p q => le d p (by omega))))))
    refine OkP.bind (ok_Flow c h hg k h0 hk (l k h0 (by omega))) fun r _ _ => ?_
    exact OkP.condD (fun _ => OkP.grd (by simp) (OkP.map (OkP.grd rfl (OkP.ret (fun _ d p q => le d p (by omega)))))) (fun _ => OkP.ret ⟨by omega, rfl, trivial⟩)

theorem right_entry {c : T_api_Code} (h : CSmall c) (hr : F_retraceref20_Right c = some true) : ∀ d : Int, 0 ≤ d → d < c.Defs.length → EG c d := (ok_Check2 c h).get (right_check h hr) rfl
end Go.Ab
