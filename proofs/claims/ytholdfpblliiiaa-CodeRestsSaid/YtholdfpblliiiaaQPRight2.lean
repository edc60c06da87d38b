import Derived.Test.YtholdfpblliiiaaQPRight
namespace Go.Ab
set_option linter.unusedVariables false
theorem ok_Wide (p : Int) : Ok (F_retraceref15_Wide p) := by
  have j2 : ∀ x, Ok (F_retraceref15_Wide_J2 x) := fun x => by unfold F_retraceref15_Wide_J2; (repeat' (with_reducible first | exact OkP.rett _ | refine OkP.condN (fun _ => ?_) (fun _ => ?_) | refine OkP.condD (fun _ => ?_) (fun _ => ?_) | refine OkP.condE (fun _ => ?_) (fun _ => ?_) | refine OkP.condNE (fun _ => ?_) (fun _ => ?_) | refine OkP.condB (fun _ => ?_) (fun _ => ?_) | refine OkP.map ?_ | refine OkP.ret ?_ | refine OkP.at (by omega) (by omega) (fun _ _ => ?_) | refine OkP.sat (by omega) (by omega) (fun _ _ => ?_) | assumption))
  have j1 : ∀ x, Ok (F_retraceref15_Wide_J1 p x) := fun x => by unfold F_retraceref15_Wide_J1; repeat' (first | exact j2 _ | (with_reducible first | exact OkP.rett _ | refine OkP.condN (fun _ => ?_) (fun _ => ?_) | refine OkP.condD (fun _ => ?_) (fun _ => ?_) | refine OkP.condE (fun _ => ?_) (fun _ => ?_) | refine OkP.condNE (fun _ => ?_) (fun _ => ?_) | refine OkP.condB (fun _ => ?_) (fun _ => ?_) | refine OkP.map ?_ | refine OkP.ret ?_ | refine OkP.at (by omega) (by omega) (fun _ _ => ?_) | refine OkP.sat (by omega) (by omega) (fun _ _ => ?_) | assumption))
  unfold F_retraceref15_Wide; repeat' (first | exact j1 _ | (with_reducible first | exact OkP.rett _ | refine OkP.condN (fun _ => ?_) (fun _ => ?_) | refine OkP.condD (fun _ => ?_) (fun _ => ?_) | refine OkP.condE (fun _ => ?_) (fun _ => ?_) | refine OkP.condNE (fun _ => ?_) (fun _ => ?_) | refine OkP.condB (fun _ => ?_) (fun _ => ?_) | refine OkP.map ?_ | refine OkP.ret ?_ | refine OkP.at (by omega) (by omega) (fun _ _ => ?_) | refine OkP.sat (by omega) (by omega) (fun _ _ => ?_) | assumption))
theorem ok_Takes (p : T_api_Ins) : Ok (F_retraceref16_Takes p) := by
  have j1 : Ok (F_retraceref16_Takes_J1) := OkP.rett _
  have j3 : ∀ x, Ok (F_retraceref16_Takes_J3 x) := fun x => by unfold F_retraceref16_Takes_J3; repeat' (first | exact j1 | (with_reducible first | exact OkP.rett _ | refine OkP.condN (fun _ => ?_) (fun _ => ?_) | refine OkP.condD (fun _ => ?_) (fun _ => ?_) | refine OkP.condE (fun _ => ?_) (fun _ => ?_) | refine OkP.condNE (fun _ => ?_) (fun _ => ?_) | refine OkP.condB (fun _ => ?_) (fun _ => ?_) | refine OkP.map ?_ | refine OkP.ret ?_ | refine OkP.at (by omega) (by omega) (fun _ _ => ?_) | refine OkP.sat (by omega) (by omega) (fun _ _ => ?_) | assumption))
  have j2 : ∀ x, Ok (F_retraceref16_Takes_J2 p x) := fun x => by unfold F_retraceref16_Takes_J2; repeat' (first | exact j3 _ | (with_reducible first | exact OkP.rett _ | refine OkP.condN (fun _ => ?_) (fun _ => ?_) | refine OkP.condD (fun _ => ?_) (fun _ => ?_) | refine OkP.condE (fun _ => ?_) (fun _ => ?_) | refine OkP.condNE (fun _ => ?_) (fun _ => ?_) | refine OkP.condB (fun _ => ?_) (fun _ => ?_) | refine OkP.map ?_ | refine OkP.ret ?_ | refine OkP.at (by omega) (by omega) (fun _ _ => ?_) | refine OkP.sat (by omega) (by omega) (fun _ _ => ?_) | assumption))
  unfold F_retraceref16_Takes
  refine OkP.bind (ok_IRight _) fun _ _ _ => ?_
  repeat' (first | exact j1 | exact j2 _ | refine OkP.bind (ok_Wide _) (fun _ _ _ => ?_) | (with_reducible first | exact OkP.rett _ | refine OkP.condN (fun _ => ?_) (fun _ => ?_) | refine OkP.condD (fun _ => ?_) (fun _ => ?_) | refine OkP.condE (fun _ => ?_) (fun _ => ?_) | refine OkP.condNE (fun _ => ?_) (fun _ => ?_) | refine OkP.condB (fun _ => ?_) (fun _ => ?_) | refine OkP.map ?_ | refine OkP.ret ?_ | refine OkP.at (by omega) (by omega) (fun _ _ => ?_) | refine OkP.sat (by omega) (by omega) (fun _ _ => ?_) | assumption))
theorem ok_fits (p : T_api_Ins) (q : T_retraceref20_Is) : Ok (F_retraceref20_fits p q) := by
  have j2 : ∀ x, Ok (F_retraceref20_fits_J2 x) := fun x => OkP.rett _
  have j3 : ∀ x, Ok (F_retraceref20_fits_J3 x) := fun x => OkP.rett _
  have j4 : ∀ x, Ok (F_retraceref20_fits_J4 x) := fun x => OkP.rett _
  have j6 : ∀ x, Ok (F_retraceref20_fits_J6 x) := fun x => OkP.rett _
  have j5 : ∀ y x, Ok (F_retraceref20_fits_J5 q y x) := fun y x => by unfold F_retraceref20_fits_J5; repeat' (first | exact j6 _ | (with_reducible first | exact OkP.rett _ | refine OkP.condN (fun _ => ?_) (fun _ => ?_) | refine OkP.condD (fun _ => ?_) (fun _ => ?_) | refine OkP.condE (fun _ => ?_) (fun _ => ?_) | refine OkP.condNE (fun _ => ?_) (fun _ => ?_) | refine OkP.condB (fun _ => ?_) (fun _ => ?_) | refine OkP.map ?_ | refine OkP.ret ?_ | refine OkP.at (by omega) (by omega) (fun _ _ => ?_) | refine OkP.sat (by omega) (by omega) (fun _ _ => ?_) | assumption))
  have j1 : ∀ y x, Ok (F_retraceref20_fits_J1 p q y x) := fun y x => by
    unfold F_retraceref20_fits_J1
    repeat' (first | exact j2 _ | exact j3 _ | exact j4 _ | exact j5 _ _ | refine OkP.bind (ok_Chooses _) (fun _ _ _ => ?_) | refine OkP.bind (ok_Acts _) (fun _ _ _ => ?_) | (with_reducible first | exact OkP.rett _ | refine OkP.condN (fun _ => ?_) (fun _ => ?_) | refine OkP.condD (fun _ => ?_) (fun _ => ?_) | refine OkP.condE (fun _ => ?_) (fun _ => ?_) | refine OkP.condNE (fun _ => ?_) (fun _ => ?_) | refine OkP.condB (fun _ => ?_) (fun _ => ?_) | refine OkP.map ?_ | refine OkP.ret ?_ | refine OkP.at (by omega) (by omega) (fun _ _ => ?_) | refine OkP.sat (by omega) (by omega) (fun _ _ => ?_) | assumption))
  unfold F_retraceref20_fits
  refine OkP.bind (ok_Takes _) fun _ _ _ => ?_
  repeat' (first | exact j1 _ _ | (with_reducible first | exact OkP.rett _ | refine OkP.condN (fun _ => ?_) (fun _ => ?_) | refine OkP.condD (fun _ => ?_) (fun _ => ?_) | refine OkP.condE (fun _ => ?_) (fun _ => ?_) | refine OkP.condNE (fun _ => ?_) (fun _ => ?_) | refine OkP.condB (fun _ => ?_) (fun _ => ?_) | refine OkP.map ?_ | refine OkP.ret ?_ | refine OkP.at (by omega) (by omega) (fun _ _ => ?_) | refine OkP.sat (by omega) (by omega) (fun _ _ => ?_) | assumption))
theorem ok_Gives (p : T_api_Ins) : Ok (F_retraceref16_Gives p) := by
  have j1 : ∀ x, Ok (F_retraceref16_Gives_J1 x) := fun x => by unfold F_retraceref16_Gives_J1; (repeat' (with_reducible first | exact OkP.rett _ | refine OkP.condN (fun _ => ?_) (fun _ => ?_) | refine OkP.condD (fun _ => ?_) (fun _ => ?_) | refine OkP.condE (fun _ => ?_) (fun _ => ?_) | refine OkP.condNE (fun _ => ?_) (fun _ => ?_) | refine OkP.condB (fun _ => ?_) (fun _ => ?_) | refine OkP.map ?_ | refine OkP.ret ?_ | refine OkP.at (by omega) (by omega) (fun _ _ => ?_) | refine OkP.sat (by omega) (by omega) (fun _ _ => ?_) | assumption))
  unfold F_retraceref16_Gives
  refine OkP.bind (ok_IRight _) fun _ _ _ => ?_
  repeat' (first | exact j1 _ | (with_reducible first | exact OkP.rett _ | refine OkP.condN (fun _ => ?_) (fun _ => ?_) | refine OkP.condD (fun _ => ?_) (fun _ => ?_) | refine OkP.condE (fun _ => ?_) (fun _ => ?_) | refine OkP.condNE (fun _ => ?_) (fun _ => ?_) | refine OkP.condB (fun _ => ?_) (fun _ => ?_) | refine OkP.map ?_ | refine OkP.ret ?_ | refine OkP.at (by omega) (by omega) (fun _ _ => ?_) | refine OkP.sat (by omega) (by omega) (fun _ _ => ?_) | assumption))
theorem ok_meets (a b : Int) (q : T_retraceref20_Is) (o : List T_retraceref20_Is) (h0 : 0 ≤ a) (h1 : b < o.length) (ho : o.length ≤ 151) :
    OkP (F_retraceref20_meets a b q o) (Sum.elim (fun r => r.1.length = o.length) (fun r => r.1.length = o.length)) := by
  unfold F_retraceref20_meets
  refine OkP.condD (fun _ => OkP.ret rfl) fun hv => ?_
  refine OkP.at (by omega) h1 fun y _ => ?_
  refine OkP.condB (fun _ => OkP.at (by omega) h1 fun z _ => OkP.ret rfl) fun _ => ?_
  refine OkP.grd (by simp; omega) ?_
  refine OkP.at (by omega) (by simp; omega) fun z _ => OkP.ret ?_
  show (List.set _ _ _).length = _
  simp
theorem ok_Flow (c : T_api_Code) (h : CSmall c) (hg : CGood c) (d : Int) (h0 : 0 ≤ d) (h1 : d < c.Defs.length)
    (ht : ∀ y T at' ins t, lAt c.Defs d = some y → F_retraceref20_To c d = some T → y.Entry ≤ at' → at' < T → lAt c.Ins at' = some ins → F_retraceref20_target ins = some (t, true) → 0 ≤ t ∧ t < c.Ins.length) :
    Ok (F_retraceref20_Flow c d) := by
  have hi := h.ins
  unfold F_retraceref20_Flow
  have e1 : w64 ((c.Ins.length : Int) + 1) = (c.Ins.length : Int) + 1 := w64i (by omega) (by omega)
  rw [e1]
  refine OkP.grd (by omega) ?_
  refine OkP.at h0 h1 fun y5 e5 => ?_
  have hE := hg y5 (lAt_mem e5)
  have el : (List.replicate (Int.toNat ((c.Ins.length : Int) + 1)) (⟨false, 0, false⟩ : T_retraceref20_Is)).length = c.Ins.length + 1 := by rw [List.length_replicate]; omega
  refine OkP.at (by omega) (by rw [el]; omega) fun y6 e6 => ?_
  rw [e5]
  refine OkP.bind (OkP.ret (P := fun y => y = y5) rfl) fun y227 _ ey => ?_
  subst ey
  refine Loop_ok (fun s : Int × List T_retraceref20_Is => y227.Entry ≤ s.1 ∧ s.1 ≤ c.Ins.length ∧ s.2.length = c.Ins.length + 1) (fun s : Int × List T_retraceref20_Is => (c.Ins.length + 1 - s.1).toNat) (fun s ⟨a, b, l⟩ => ?_) _ ⟨Int.le_refl _, by show y227.Entry ≤ _; omega, by rw [List.length_set, el]⟩
  obtain ⟨i, f⟩ := s
  replace a : y227.Entry ≤ i := a
  replace b : i ≤ c.Ins.length := b
  replace l : f.length = c.Ins.length + 1 := l
  show OkP (F_retraceref20_Flow_L8 c d i f) _
  unfold F_retraceref20_Flow_L8
  refine OkP.bind (ok_To c h hg d h0 h1) fun T eT hT => ?_
  refine OkP.condD (fun hv => ?_) (fun _ => OkP.map (OkP.ret trivial))
  let P : (Int × List T_retraceref20_Is) ⊕ (List T_retraceref20_Is × Int) → Prop := Sum.elim (fun s' : Int × List T_retraceref20_Is => (y227.Entry ≤ s'.1 ∧ s'.1 ≤ c.Ins.length ∧ s'.2.length = c.Ins.length + 1) ∧ (c.Ins.length + 1 - s'.1).toNat < (c.Ins.length + 1 - i).toNat) (fun _ => True)
  show OkP _ P
  have ei : w64 (i + 1) = i + 1 := w64i (by omega) (by omega)
  have j1 : ∀ f' : List T_retraceref20_Is, f'.length = c.Ins.length + 1 → OkP (F_retraceref20_Flow_J1 i f') P := fun f' hf => by
    unfold F_retraceref20_Flow_J1
    rw [ei]
    refine OkP.ret ?_
    show (y227.Entry ≤ i + 1 ∧ i + 1 ≤ c.Ins.length ∧ f'.length = c.Ins.length + 1) ∧ (c.Ins.length + 1 - (i + 1)).toNat < (c.Ins.length + 1 - i).toNat
    omega
  have j5 : ∀ x (f' : List T_retraceref20_Is), f'.length = c.Ins.length + 1 → OkP (F_retraceref20_Flow_J5 i x f') P := fun x f' hf => by
    unfold F_retraceref20_Flow_J5
    exact OkP.condN (fun _ => OkP.map (OkP.ret trivial)) (fun _ => j1 f' hf)
  have j6 : ∀ u v x (f' : List T_retraceref20_Is) z, f'.length = c.Ins.length + 1 → OkP (F_retraceref20_Flow_J6 i u v x f' z) P := fun u v x f' z hf => by
    unfold F_retraceref20_Flow_J6
    refine OkP.condB (fun _ => ?_) (fun _ => j5 _ _ hf)
    rw [ei]
    refine OkP.bind (ok_meets i (i + 1) _ f' (by omega) (by omega) (by omega)) fun r _ hr => ?_
    cases r with
    | inl r => exact j5 _ _ (by have : r.1.length = f'.length := hr; omega)
    | inr r => exact j5 _ _ (by have : r.1.length = f'.length := hr; omega)
  have j4 : ∀ y u v x (f' : List T_retraceref20_Is), f'.length = c.Ins.length + 1 → OkP (F_retraceref20_Flow_J4 i y u v x f') P := fun y u v x f' hf => by
    unfold F_retraceref20_Flow_J4
    refine OkP.condN (fun _ => OkP.map (OkP.ret trivial)) (fun _ => ?_)
    repeat' (first | exact j6 _ _ _ _ _ hf | (with_reducible first | exact OkP.rett _ | refine OkP.condN (fun _ => ?_) (fun _ => ?_) | refine OkP.condD (fun _ => ?_) (fun _ => ?_) | refine OkP.condE (fun _ => ?_) (fun _ => ?_) | refine OkP.condNE (fun _ => ?_) (fun _ => ?_) | refine OkP.condB (fun _ => ?_) (fun _ => ?_) | refine OkP.map ?_ | refine OkP.ret ?_ | refine OkP.at (by omega) (by omega) (fun _ _ => ?_) | refine OkP.sat (by omega) (by omega) (fun _ _ => ?_) | assumption))
  have j2 : ∀ x, OkP (F_retraceref20_Flow_J2 c i f x) P := fun x => by
    unfold F_retraceref20_Flow_J2
    refine OkP.condB (fun _ => j1 f l) (fun _ => ?_)
    refine OkP.at (by omega) (by omega) fun y352 _ => OkP.at (by omega) (by omega) fun y354 e354 => ?_
    have ls : ∀ x, (List.set f i.toNat x).length = c.Ins.length + 1 := fun x => by rw [List.length_set, l]
    have j7 : ∀ y u v (t : Int × Bool) p q, t.1 < c.Ins.length → OkP (F_retraceref20_Flow_J7 i f y y354 u v t p q) P := fun y u v t p q hq => by
      unfold F_retraceref20_Flow_J7
      refine OkP.bind (ok_meets i t.1 _ _ (by omega) (by rw [ls]; omega) (by rw [ls]; omega)) fun r _ hr => ?_
      cases r with
      | inl r => exact j4 _ _ _ _ _ (Eq.trans hr (ls _))
      | inr r => exact j4 _ _ _ _ _ (Eq.trans hr (ls _))
    have j3 : ∀ y u v, OkP (F_retraceref20_Flow_J3 i f y y354 u v) P := fun y u v => by
      unfold F_retraceref20_Flow_J3
      refine OkP.bind (ok_target y354) fun t et _ => ?_
      refine OkP.condB (fun htt => ?_) (fun _ => j4 _ _ _ _ _ (ls _))
      have := (ht y227 T i y354 t.1 e5 eT a hv e354 (by rw [et]; congr 1; rw [← htt])).2
      exact OkP.bind (ok_Chooses _) fun _ _ _ => OkP.condB (fun _ => j7 _ _ _ _ _ _ this) (fun _ => j7 _ _ _ _ _ _ this)
    refine OkP.at (by omega) (by rw [ls]; omega) fun y362 _ => OkP.bind (ok_fits _ _) fun _ _ _ => ?_
    refine OkP.condN (fun _ => OkP.map (OkP.ret trivial)) (fun _ => ?_)
    refine OkP.at (by omega) (by rw [ls]; omega) fun y435 _ => OkP.bind (ok_Takes _) fun _ _ _ => OkP.bind (ok_Gives _) fun _ _ _ => ?_
    refine OkP.at (by omega) (by rw [ls]; omega) fun y438 _ => ?_
    exact OkP.condB (fun _ => j3 _ _ _) (fun _ => j3 _ _ _)
  refine OkP.at (by omega) (by omega) fun y440 _ => ?_
  exact OkP.condN (fun _ => OkP.at (by omega) (by omega) fun _ _ => j2 _) (fun _ => j2 _)

theorem ok_Check (c : T_api_Code) (h : CSmall c) : OkP (F_retraceref20_Check c) (fun r => r.length = 2 ∧ (r = [0, 0] → CGood c)) := by
  have hi := h.ins
  have hd := h.defs
  unfold F_retraceref20_Check
  refine OkP.bind (ok_tables c h) fun b _ hb => ?_
  refine OkP.condN (fun _ => OkP.grd (by simp) (OkP.grd rfl (OkP.ret ⟨rfl, fun h => by simp at h⟩))) fun hbt => ?_
  have hg := hb hbt
  let TD : Int → Prop := fun d => ∀ y T at' ins t, lAt c.Defs d = some y → F_retraceref20_To c d = some T → y.Entry ≤ at' → at' < T → lAt c.Ins at' = some ins → F_retraceref20_target ins = some (t, true) → 0 ≤ t ∧ t < c.Ins.length
  let I : Int × Int → Prop := fun s => 0 ≤ s.2 ∧ s.2 ≤ c.Defs.length ∧ ∀ d, 0 ≤ d → d < s.2 → TD d
  let m : Int × Int → Nat := fun s => (c.Defs.length - s.2).toNat
  refine Loop_ok I m (fun s ⟨a, b, l⟩ => ?_) _ ⟨Int.le_refl _, by show (0 : Int) ≤ _; omega, fun d p q => by have q' : d < 0 := q; omega⟩
  obtain ⟨u, i⟩ := s
  replace a : 0 ≤ i := a
  replace b : i ≤ c.Defs.length := b
  replace l : ∀ d, 0 ≤ d → d < i → TD d := l
  show OkP (F_retraceref20_Check_L4 c u i) _
  unfold F_retraceref20_Check_L4
  refine OkP.condD (fun hv => ?_) (fun hv => ?_)
  · refine OkP.at a hv fun y ey => ?_
    have hE := hg y (lAt_mem ey)
    refine Loop_ok (fun s : Int × Int => y.Entry ≤ s.2 ∧ s.2 ≤ c.Ins.length ∧ ∀ at' ins t, y.Entry ≤ at' → at' < s.2 → lAt c.Ins at' = some ins → F_retraceref20_target ins = some (t, true) → 0 ≤ t ∧ t < c.Ins.length) (fun s : Int × Int => (c.Ins.length - s.2).toNat) (fun s ⟨a2, b2, l2⟩ => ?_) _ ⟨Int.le_refl _, by show y.Entry ≤ _; omega, fun at' ins t p q => by have q' : at' < y.Entry := q; omega⟩
    obtain ⟨v, j⟩ := s
    replace a2 : y.Entry ≤ j := a2
    replace b2 : j ≤ c.Ins.length := b2
    show OkP (F_retraceref20_Check_L2 c i v j) _
    unfold F_retraceref20_Check_L2
    refine OkP.bind (ok_To c h hg i a hv) fun T eT hT => ?_
    refine OkP.condD (fun hj => ?_) (fun hj => ?_)
    · refine OkP.bind (ok_may c h hg i a hv j v (by omega) (by omega)) fun mb emb hmb => ?_
      refine OkP.condN (fun _ => OkP.grd (by simp) (OkP.map (OkP.map (OkP.grd rfl (OkP.ret ⟨rfl, fun h => by simp at h⟩))))) fun hmt => ?_
      refine OkP.at (by omega) (by omega) fun z ez => ?_
      have j1 : ∀ x, OkP (F_retraceref20_Check_J1 j x) (Sum.elim (fun s' : Int × Int => (y.Entry ≤ s'.2 ∧ s'.2 ≤ c.Ins.length ∧ ∀ at' ins t, y.Entry ≤ at' → at' < s'.2 → lAt c.Ins at' = some ins → F_retraceref20_target ins = some (t, true) → 0 ≤ t ∧ t < c.Ins.length) ∧ (c.Ins.length - s'.2).toNat < (c.Ins.length - j).toNat) (Sum.elim (fun s' => I s' ∧ m s' < m (u, i)) (fun r => r.length = 2 ∧ (r = [0, 0] → CGood c)))) := fun x => by
        unfold F_retraceref20_Check_J1
        rw [w64i (n := j + 1) (by omega) (by omega)]
        refine OkP.ret ⟨⟨?_, ?_, ?_⟩, ?_⟩
        · show y.Entry ≤ j + 1; omega
        · show j + 1 ≤ _; omega
        · intro at' ins t p q e1 e2
          have q' : at' < j + 1 := q
          by_cases hq : at' = j
          · subst hq; exact hmb hmt ins t e1 e2
          · exact l2 at' ins t p (by show at' < j; omega) e1 e2
        · show (c.Ins.length - (j + 1)).toNat < _; omega
      exact OkP.condE (fun _ => j1 _) (fun _ => j1 _)
    · refine OkP.map (OkP.ret ?_)
      rw [w64i (n := i + 1) (by omega) (by omega)]
      refine ⟨⟨?_, ?_, ?_⟩, ?_⟩
      · show 0 ≤ i + 1; omega
      · show i + 1 ≤ _; omega
      · intro d p q
        have q' : d < i + 1 := q
        by_cases hq : d = i
        · subst hq
          intro y' T' at' ins t e1 e2 p1 p2
          rw [ey] at e1; cases e1
          rw [eT] at e2; cases e2
          exact l2 at' ins t p1 (by show at' < j; omega)
        · exact l d p (by omega)
      · show (c.Defs.length - (i + 1)).toNat < (c.Defs.length - i).toNat; omega
  · refine OkP.map ?_
    refine OkP.condNE (fun _ => OkP.grd (by simp) (OkP.grd rfl (OkP.ret ⟨rfl, fun h => by simp at h⟩))) fun _ => ?_
    refine Loop_up c.Defs.length (by omega) (fun _ => True) (fun k h0 h1 _ => ?_) trivial
    unfold F_retraceref20_Check_L3
    refine OkP.condD (fun hk => ?_) (fun _ => OkP.map (OkP.grd (by simp) (OkP.grd rfl (OkP.ret ⟨rfl, fun _ => hg⟩))))
    refine OkP.bind (ok_Flow c h hg k h0 hk (l k h0 (by omega))) fun r _ _ => ?_
    exact OkP.condD (fun _ => OkP.grd (by simp) (OkP.map (OkP.grd rfl (OkP.ret ⟨rfl, fun _ => hg⟩)))) (fun _ => OkP.ret ⟨by omega, rfl, trivial⟩)
theorem ok_Right (c : T_api_Code) (h : CSmall c) : OkP (F_retraceref20_Right c) (fun b => b = true → CGood c) := by
  unfold F_retraceref20_Right
  refine OkP.bind (ok_Check c h) fun r _ hr => OkP.grd ⟨hr.1, rfl⟩ (OkP.ret fun e => hr.2 (by simpa using e))
end Go.Ab
