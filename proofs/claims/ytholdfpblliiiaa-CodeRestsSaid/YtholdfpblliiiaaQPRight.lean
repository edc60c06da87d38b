import Derived.Test.YtholdfpblliiiaaGQ
import Derived.Test.YtholdfpblliiiaaGQX
import Derived.Test.YtholdfpblliiiaaAbTot
namespace Go.Ab
set_option linter.unusedVariables false

theorem ok_Letter (p : Int) : Ok (F_retraceref08_Letter p) := by
  have j : ∀ x, Ok (F_retraceref08_Letter_J1 x) := fun x => OkP.rett _
  unfold F_retraceref08_Letter; repeat' (first | exact j _ | (with_reducible first | exact OkP.rett _ | refine OkP.condN (fun _ => ?_) (fun _ => ?_) | refine OkP.condD (fun _ => ?_) (fun _ => ?_) | refine OkP.condE (fun _ => ?_) (fun _ => ?_) | refine OkP.condNE (fun _ => ?_) (fun _ => ?_) | refine OkP.condB (fun _ => ?_) (fun _ => ?_) | refine OkP.map ?_ | refine OkP.ret ?_ | refine OkP.at (by omega) (by omega) (fun _ _ => ?_) | refine OkP.sat (by omega) (by omega) (fun _ _ => ?_) | assumption))
theorem ok_Digit (p : Int) : Ok (F_retraceref08_Digit p) := by
  have j : ∀ x, Ok (F_retraceref08_Digit_J1 x) := fun x => OkP.rett _
  unfold F_retraceref08_Digit; repeat' (first | exact j _ | (with_reducible first | exact OkP.rett _ | refine OkP.condN (fun _ => ?_) (fun _ => ?_) | refine OkP.condD (fun _ => ?_) (fun _ => ?_) | refine OkP.condE (fun _ => ?_) (fun _ => ?_) | refine OkP.condNE (fun _ => ?_) (fun _ => ?_) | refine OkP.condB (fun _ => ?_) (fun _ => ?_) | refine OkP.map ?_ | refine OkP.ret ?_ | refine OkP.at (by omega) (by omega) (fun _ _ => ?_) | refine OkP.sat (by omega) (by omega) (fun _ _ => ?_) | assumption))
theorem ok_In (l : List ByteArray) (p : ByteArray) (hl : l.length < 9223372036854775808) : Ok (F_retraceref08_In p l) := by
  unfold F_retraceref08_In
  refine Loop_up l.length hl (fun _ => True) (fun i h0 h1 _ => ?_) trivial
  unfold F_retraceref08_In_L1
  (repeat' (with_reducible first | exact OkP.rett _ | refine OkP.condN (fun _ => ?_) (fun _ => ?_) | refine OkP.condD (fun _ => ?_) (fun _ => ?_) | refine OkP.condE (fun _ => ?_) (fun _ => ?_) | refine OkP.condNE (fun _ => ?_) (fun _ => ?_) | refine OkP.condB (fun _ => ?_) (fun _ => ?_) | refine OkP.map ?_ | refine OkP.ret ?_ | refine OkP.at (by omega) (by omega) (fun _ _ => ?_) | refine OkP.sat (by omega) (by omega) (fun _ _ => ?_) | assumption))
  all_goals first | trivial | exact ⟨by omega, rfl, trivial⟩
theorem ok_Name (p : ByteArray) (hp : p.size ≤ maxLen) : Ok (F_retraceref08_Name p) := by
  unfold F_retraceref08_Name
  have hm : maxLen = 9223372036854775807 := rfl
  refine Loop_up p.size (by omega) (fun _ => True) (fun i h0 h1 _ => ?_) trivial
  have j : ∀ x, i < p.size → OkP (F_retraceref08_Name_J1 i x) (Sum.elim (fun j => i < p.size ∧ j = w64 (i + 1) ∧ True) (fun _ => True)) := fun x h => by
    unfold F_retraceref08_Name_J1; (repeat' (with_reducible first | exact OkP.rett _ | refine OkP.condN (fun _ => ?_) (fun _ => ?_) | refine OkP.condD (fun _ => ?_) (fun _ => ?_) | refine OkP.condE (fun _ => ?_) (fun _ => ?_) | refine OkP.condNE (fun _ => ?_) (fun _ => ?_) | refine OkP.condB (fun _ => ?_) (fun _ => ?_) | refine OkP.map ?_ | refine OkP.ret ?_ | refine OkP.at (by omega) (by omega) (fun _ _ => ?_) | refine OkP.sat (by omega) (by omega) (fun _ _ => ?_) | assumption))
    all_goals first | trivial | exact ⟨by omega, rfl, trivial⟩
  have j2 : ∀ x, OkP (F_retraceref08_Name_J2 x) (fun b => Sum.elim (fun j => i < p.size ∧ j = w64 (i + 1) ∧ True) (fun _ => True) (Sum.inr b : Int ⊕ Bool)) := fun x => ⟨_, rfl, trivial⟩
  have hw : Ok (F_retraceref08_Words) := OkP.rett _
  unfold F_retraceref08_Name_L3
  repeat' (first | exact j _ (by omega) | exact j2 _ | (with_reducible first | exact OkP.rett _ | refine OkP.condN (fun _ => ?_) (fun _ => ?_) | refine OkP.condD (fun _ => ?_) (fun _ => ?_) | refine OkP.condE (fun _ => ?_) (fun _ => ?_) | refine OkP.condNE (fun _ => ?_) (fun _ => ?_) | refine OkP.condB (fun _ => ?_) (fun _ => ?_) | refine OkP.map ?_ | refine OkP.ret ?_ | refine OkP.at (by omega) (by omega) (fun _ _ => ?_) | refine OkP.sat (by omega) (by omega) (fun _ _ => ?_) | assumption) | refine OkP.bind (ok_Letter _) (fun _ _ _ => ?_) | refine OkP.bind (ok_Digit _) (fun _ _ _ => ?_))
  refine OkP.bind hw fun y e _ => OkP.bind (ok_In y p ?_) fun _ _ _ => j2 _
  obtain rfl := Option.some.inj e
  decide

structure CSmall (c : T_api_Code) : Prop where
  ins : c.Ins.length ≤ 150
  defs : c.Defs.length ≤ 40
  chans : c.Chans.length ≤ 80
  dn : ∀ d ∈ c.Defs, d.Name.size ≤ maxLen
  cn : ∀ d ∈ c.Chans, d.Name.size ≤ maxLen
def CGood (c : T_api_Code) : Prop := ∀ d ∈ c.Defs, 0 ≤ d.Entry ∧ d.Entry < c.Ins.length

theorem ok_tables (c : T_api_Code) (h : CSmall c) : OkP (F_retraceref20_tables c) (fun b => b = true → CGood c) := by
  have hi := h.ins
  have hd := h.defs
  have hc := h.chans
  have l6 : Ok (Loop (fun s : (Int × Int) => F_retraceref20_tables_L6 c s.1 s.2) (0, 0)) := by
    refine Loop_ok (fun s : Int × Int => 0 ≤ s.2 ∧ s.2 ≤ c.Chans.length) (fun s : Int × Int => (c.Chans.length - s.2).toNat) (fun s ⟨a, b⟩ => ?_) _ ⟨by simp, by simp⟩
    obtain ⟨u, i⟩ := s
    replace a : 0 ≤ i := a
    replace b : i ≤ c.Chans.length := b
    have j4 : ∀ v, i < c.Chans.length → OkP (F_retraceref20_tables_J4 i v) (Sum.elim (fun s' : Int × Int => (0 ≤ s'.2 ∧ s'.2 ≤ c.Chans.length) ∧ (c.Chans.length - s'.2).toNat < (c.Chans.length - i).toNat) (fun _ => True)) := fun v hv => by
      refine ⟨_, rfl, ?_⟩
      rw [w64i (by omega) (by omega)]
      show (0 ≤ i + 1 ∧ i + 1 ≤ _) ∧ (c.Chans.length - (i + 1)).toNat < _
      omega
    have j5 : ∀ y x, i < c.Chans.length → OkP (F_retraceref20_tables_J5 u i y x) (Sum.elim (fun s' : Int × Int => (0 ≤ s'.2 ∧ s'.2 ≤ c.Chans.length) ∧ (c.Chans.length - s'.2).toNat < (c.Chans.length - i).toNat) (fun _ => True)) := fun y x hv => by
      unfold F_retraceref20_tables_J5
      repeat' (first | exact j4 _ hv | (with_reducible first | exact OkP.rett _ | refine OkP.condN (fun _ => ?_) (fun _ => ?_) | refine OkP.condD (fun _ => ?_) (fun _ => ?_) | refine OkP.condE (fun _ => ?_) (fun _ => ?_) | refine OkP.condNE (fun _ => ?_) (fun _ => ?_) | refine OkP.condB (fun _ => ?_) (fun _ => ?_) | refine OkP.map ?_ | refine OkP.ret ?_ | refine OkP.at (by omega) (by omega) (fun _ _ => ?_) | refine OkP.sat (by omega) (by omega) (fun _ _ => ?_) | assumption))
      all_goals trivial
    show OkP (F_retraceref20_tables_L6 c u i) _
    unfold F_retraceref20_tables_L6
    refine OkP.condD (fun hv => ?_) (fun _ => OkP.map (OkP.ret trivial))
    refine OkP.at a hv fun y ey => OkP.bind (ok_Name _ (h.cn y (lAt_mem ey))) fun _ _ _ => ?_
    repeat' (first | exact j5 _ _ hv | (with_reducible first | exact OkP.rett _ | refine OkP.condN (fun _ => ?_) (fun _ => ?_) | refine OkP.condD (fun _ => ?_) (fun _ => ?_) | refine OkP.condE (fun _ => ?_) (fun _ => ?_) | refine OkP.condNE (fun _ => ?_) (fun _ => ?_) | refine OkP.condB (fun _ => ?_) (fun _ => ?_) | refine OkP.map ?_ | refine OkP.ret ?_ | refine OkP.at (by omega) (by omega) (fun _ _ => ?_) | refine OkP.sat (by omega) (by omega) (fun _ _ => ?_) | assumption))
  have l7 : OkP (Loop (fun s : (Int) => F_retraceref20_tables_L7 c s) 0) (fun b => b = true → CGood c) := by
    refine Loop_up c.Defs.length (by omega) (fun i => ∀ k d, 0 ≤ k → k < i → lAt c.Defs k = some d → 0 ≤ d.Entry ∧ d.Entry < c.Ins.length) (fun i h0 h1 hg => ?_) (fun k d a b => by omega)
    unfold F_retraceref20_tables_L7
    refine OkP.condD (fun hv => ?_) (fun hv => ?_)
    · refine OkP.at h0 hv fun y ey => ?_
      have j3 : ∀ x, 0 ≤ y.Entry → y.Entry < c.Ins.length → OkP (F_retraceref20_tables_J3 i x) (Sum.elim (fun j => i < c.Defs.length ∧ j = w64 (i + 1) ∧ (∀ k d, 0 ≤ k → k < i + 1 → lAt c.Defs k = some d → 0 ≤ d.Entry ∧ d.Entry < c.Ins.length)) (fun b => b = true → CGood c)) := fun x p q => by
        unfold F_retraceref20_tables_J3
        refine OkP.condB (fun _ => OkP.map (OkP.ret (fun h => by cases h))) (fun _ => OkP.ret ⟨hv, rfl, fun k d a b e => ?_⟩)
        by_cases hk : k = i
        · subst hk; rw [ey] at e; cases e; exact ⟨p, q⟩
        · exact hg k d a (by omega) e
      have j2t : OkP (F_retraceref20_tables_J2 i y true) (Sum.elim (fun j => i < c.Defs.length ∧ j = w64 (i + 1) ∧ (∀ k d, 0 ≤ k → k < i + 1 → lAt c.Defs k = some d → 0 ≤ d.Entry ∧ d.Entry < c.Ins.length)) (fun b => b = true → CGood c)) := ⟨_, rfl, fun h => by cases h⟩
      have j2 : ∀ x, 0 ≤ y.Entry → y.Entry < c.Ins.length → OkP (F_retraceref20_tables_J2 i y x) (Sum.elim (fun j => i < c.Defs.length ∧ j = w64 (i + 1) ∧ (∀ k d, 0 ≤ k → k < i + 1 → lAt c.Defs k = some d → 0 ≤ d.Entry ∧ d.Entry < c.Ins.length)) (fun b => b = true → CGood c)) := fun x p q => by
        unfold F_retraceref20_tables_J2
        refine OkP.condB (fun _ => OkP.map (OkP.ret (fun h => by cases h))) (fun _ => ?_)
        repeat' (first | exact j3 _ p q | (with_reducible first | exact OkP.rett _ | refine OkP.condN (fun _ => ?_) (fun _ => ?_) | refine OkP.condD (fun _ => ?_) (fun _ => ?_) | refine OkP.condE (fun _ => ?_) (fun _ => ?_) | refine OkP.condNE (fun _ => ?_) (fun _ => ?_) | refine OkP.condB (fun _ => ?_) (fun _ => ?_) | refine OkP.map ?_ | refine OkP.ret ?_ | refine OkP.at (by omega) (by omega) (fun _ _ => ?_) | refine OkP.sat (by omega) (by omega) (fun _ _ => ?_) | assumption))
      have e1 : w64 (i - 1) = i - 1 := w64i (by omega) (by omega)
      rw [e1]
      refine OkP.condN (fun _ => ?_) (fun _ => ?_)
      · refine OkP.bind (ok_Name _ (h.dn y (lAt_mem ey))) fun _ _ _ => ?_
        repeat' (first | exact j2t | exact j2 _ (by omega) (by omega) | (with_reducible first | exact OkP.rett _ | refine OkP.condN (fun _ => ?_) (fun _ => ?_) | refine OkP.condD (fun _ => ?_) (fun _ => ?_) | refine OkP.condE (fun _ => ?_) (fun _ => ?_) | refine OkP.condNE (fun _ => ?_) (fun _ => ?_) | refine OkP.condB (fun _ => ?_) (fun _ => ?_) | refine OkP.map ?_ | refine OkP.ret ?_ | refine OkP.at (by omega) (by omega) (fun _ _ => ?_) | refine OkP.sat (by omega) (by omega) (fun _ _ => ?_) | assumption))
      · repeat' (first | exact j2t | exact j2 _ (by omega) (by omega) | (with_reducible first | exact OkP.rett _ | refine OkP.condN (fun _ => ?_) (fun _ => ?_) | refine OkP.condD (fun _ => ?_) (fun _ => ?_) | refine OkP.condE (fun _ => ?_) (fun _ => ?_) | refine OkP.condNE (fun _ => ?_) (fun _ => ?_) | refine OkP.condB (fun _ => ?_) (fun _ => ?_) | refine OkP.map ?_ | refine OkP.ret ?_ | refine OkP.at (by omega) (by omega) (fun _ _ => ?_) | refine OkP.sat (by omega) (by omega) (fun _ _ => ?_) | assumption))
    · refine OkP.map (l6.mono fun b _ _ _ d hd => ?_)
      obtain ⟨k, hk, e⟩ := List.getElem_of_mem hd
      exact hg k d (by omega) (by omega) (by rw [lAt_lt hk, e])
  have j1 : ∀ x, OkP (F_retraceref20_tables_J1 c x) (fun b => b = true → CGood c) := fun x => by
    unfold F_retraceref20_tables_J1
    exact OkP.condB (fun _ => OkP.ret (fun h => by cases h)) (fun _ => l7)
  unfold F_retraceref20_tables
  repeat' (first | exact j1 _ | (with_reducible first | exact OkP.rett _ | refine OkP.condN (fun _ => ?_) (fun _ => ?_) | refine OkP.condD (fun _ => ?_) (fun _ => ?_) | refine OkP.condE (fun _ => ?_) (fun _ => ?_) | refine OkP.condNE (fun _ => ?_) (fun _ => ?_) | refine OkP.condB (fun _ => ?_) (fun _ => ?_) | refine OkP.map ?_ | refine OkP.ret ?_ | refine OkP.at (by omega) (by omega) (fun _ _ => ?_) | refine OkP.sat (by omega) (by omega) (fun _ _ => ?_) | assumption))

theorem ok_To (c : T_api_Code) (h : CSmall c) (hg : CGood c) (d : Int) (h0 : 0 ≤ d) (h1 : d < c.Defs.length) : OkP (F_retraceref20_To c d) (fun t => t ≤ c.Ins.length) := by
  have hi := h.defs
  unfold F_retraceref20_To
  rw [w64i (by omega) (by omega)]
  refine OkP.condD (fun hv => OkP.at (by omega) hv fun y ey => OkP.ret ?_) (fun _ => OkP.ret (Int.le_refl _))
  have := hg y (lAt_mem ey)
  omega
theorem ok_Nums (p : Int) : Ok (F_retraceref16_Nums p) := by
  have j2 : ∀ x, Ok (F_retraceref16_Nums_J2 x) := fun x => by unfold F_retraceref16_Nums_J2; (repeat' (with_reducible first | exact OkP.rett _ | refine OkP.condN (fun _ => ?_) (fun _ => ?_) | refine OkP.condD (fun _ => ?_) (fun _ => ?_) | refine OkP.condE (fun _ => ?_) (fun _ => ?_) | refine OkP.condNE (fun _ => ?_) (fun _ => ?_) | refine OkP.condB (fun _ => ?_) (fun _ => ?_) | refine OkP.map ?_ | refine OkP.ret ?_ | refine OkP.at (by omega) (by omega) (fun _ _ => ?_) | refine OkP.sat (by omega) (by omega) (fun _ _ => ?_) | assumption))
  have j1 : ∀ x, Ok (F_retraceref16_Nums_J1 p x) := fun x => by unfold F_retraceref16_Nums_J1; repeat' (first | exact j2 _ | (with_reducible first | exact OkP.rett _ | refine OkP.condN (fun _ => ?_) (fun _ => ?_) | refine OkP.condD (fun _ => ?_) (fun _ => ?_) | refine OkP.condE (fun _ => ?_) (fun _ => ?_) | refine OkP.condNE (fun _ => ?_) (fun _ => ?_) | refine OkP.condB (fun _ => ?_) (fun _ => ?_) | refine OkP.map ?_ | refine OkP.ret ?_ | refine OkP.at (by omega) (by omega) (fun _ _ => ?_) | refine OkP.sat (by omega) (by omega) (fun _ _ => ?_) | assumption))
  unfold F_retraceref16_Nums; repeat' (first | exact j1 _ | (with_reducible first | exact OkP.rett _ | refine OkP.condN (fun _ => ?_) (fun _ => ?_) | refine OkP.condD (fun _ => ?_) (fun _ => ?_) | refine OkP.condE (fun _ => ?_) (fun _ => ?_) | refine OkP.condNE (fun _ => ?_) (fun _ => ?_) | refine OkP.condB (fun _ => ?_) (fun _ => ?_) | refine OkP.map ?_ | refine OkP.ret ?_ | refine OkP.at (by omega) (by omega) (fun _ _ => ?_) | refine OkP.sat (by omega) (by omega) (fun _ _ => ?_) | assumption))
theorem ok_IRight (p : T_api_Ins) : Ok (F_retraceref16_Right p) := by
  have j2 : ∀ x, Ok (F_retraceref16_Right_J2 x) := fun x => by unfold F_retraceref16_Right_J2; (repeat' (with_reducible first | exact OkP.rett _ | refine OkP.condN (fun _ => ?_) (fun _ => ?_) | refine OkP.condD (fun _ => ?_) (fun _ => ?_) | refine OkP.condE (fun _ => ?_) (fun _ => ?_) | refine OkP.condNE (fun _ => ?_) (fun _ => ?_) | refine OkP.condB (fun _ => ?_) (fun _ => ?_) | refine OkP.map ?_ | refine OkP.ret ?_ | refine OkP.at (by omega) (by omega) (fun _ _ => ?_) | refine OkP.sat (by omega) (by omega) (fun _ _ => ?_) | assumption))
  have j1 : ∀ x, Ok (F_retraceref16_Right_J1 p x) := fun x => by unfold F_retraceref16_Right_J1; repeat' (first | exact j2 _ | (with_reducible first | exact OkP.rett _ | refine OkP.condN (fun _ => ?_) (fun _ => ?_) | refine OkP.condD (fun _ => ?_) (fun _ => ?_) | refine OkP.condE (fun _ => ?_) (fun _ => ?_) | refine OkP.condNE (fun _ => ?_) (fun _ => ?_) | refine OkP.condB (fun _ => ?_) (fun _ => ?_) | refine OkP.map ?_ | refine OkP.ret ?_ | refine OkP.at (by omega) (by omega) (fun _ _ => ?_) | refine OkP.sat (by omega) (by omega) (fun _ _ => ?_) | assumption))
  unfold F_retraceref16_Right
  refine OkP.bind (ok_Nums _) fun _ _ _ => ?_
  repeat' (first | exact j1 _ | (with_reducible first | exact OkP.rett _ | refine OkP.condN (fun _ => ?_) (fun _ => ?_) | refine OkP.condD (fun _ => ?_) (fun _ => ?_) | refine OkP.condE (fun _ => ?_) (fun _ => ?_) | refine OkP.condNE (fun _ => ?_) (fun _ => ?_) | refine OkP.condB (fun _ => ?_) (fun _ => ?_) | refine OkP.map ?_ | refine OkP.ret ?_ | refine OkP.at (by omega) (by omega) (fun _ _ => ?_) | refine OkP.sat (by omega) (by omega) (fun _ _ => ?_) | assumption))
theorem ok_channel (c : T_api_Code) (h : CSmall c) (a b : Int) : Ok (F_retraceref20_channel c a b) := by
  have hi := h.chans
  unfold F_retraceref20_channel
  refine Loop_up c.Chans.length (by omega) (fun _ => True) (fun i h0 h1 _ => ?_) trivial
  have j : ∀ x, i < c.Chans.length → OkP (F_retraceref20_channel_J1 i x) (Sum.elim (fun j => i < c.Chans.length ∧ j = w64 (i + 1) ∧ True) (fun _ => True)) := fun x h => by
    unfold F_retraceref20_channel_J1; (repeat' (with_reducible first | exact OkP.rett _ | refine OkP.condN (fun _ => ?_) (fun _ => ?_) | refine OkP.condD (fun _ => ?_) (fun _ => ?_) | refine OkP.condE (fun _ => ?_) (fun _ => ?_) | refine OkP.condNE (fun _ => ?_) (fun _ => ?_) | refine OkP.condB (fun _ => ?_) (fun _ => ?_) | refine OkP.map ?_ | refine OkP.ret ?_ | refine OkP.at (by omega) (by omega) (fun _ _ => ?_) | refine OkP.sat (by omega) (by omega) (fun _ _ => ?_) | assumption))
    all_goals first | trivial | exact ⟨by omega, rfl, trivial⟩
  unfold F_retraceref20_channel_L2
  repeat' (first | exact j _ (by omega) | (with_reducible first | exact OkP.rett _ | refine OkP.condN (fun _ => ?_) (fun _ => ?_) | refine OkP.condD (fun _ => ?_) (fun _ => ?_) | refine OkP.condE (fun _ => ?_) (fun _ => ?_) | refine OkP.condNE (fun _ => ?_) (fun _ => ?_) | refine OkP.condB (fun _ => ?_) (fun _ => ?_) | refine OkP.map ?_ | refine OkP.ret ?_ | refine OkP.at (by omega) (by omega) (fun _ _ => ?_) | refine OkP.sat (by omega) (by omega) (fun _ _ => ?_) | assumption))
  all_goals trivial
theorem ok_Which (p : Int) : Ok (F_retraceref17_Which p) := by
  have j1 : ∀ x, Ok (F_retraceref17_Which_J1 x) := fun x => by unfold F_retraceref17_Which_J1; (repeat' (with_reducible first | exact OkP.rett _ | refine OkP.condN (fun _ => ?_) (fun _ => ?_) | refine OkP.condD (fun _ => ?_) (fun _ => ?_) | refine OkP.condE (fun _ => ?_) (fun _ => ?_) | refine OkP.condNE (fun _ => ?_) (fun _ => ?_) | refine OkP.condB (fun _ => ?_) (fun _ => ?_) | refine OkP.map ?_ | refine OkP.ret ?_ | refine OkP.at (by omega) (by omega) (fun _ _ => ?_) | refine OkP.sat (by omega) (by omega) (fun _ _ => ?_) | assumption))
  unfold F_retraceref17_Which; repeat' (first | exact j1 _ | (with_reducible first | exact OkP.rett _ | refine OkP.condN (fun _ => ?_) (fun _ => ?_) | refine OkP.condD (fun _ => ?_) (fun _ => ?_) | refine OkP.condE (fun _ => ?_) (fun _ => ?_) | refine OkP.condNE (fun _ => ?_) (fun _ => ?_) | refine OkP.condB (fun _ => ?_) (fun _ => ?_) | refine OkP.map ?_ | refine OkP.ret ?_ | refine OkP.at (by omega) (by omega) (fun _ _ => ?_) | refine OkP.sat (by omega) (by omega) (fun _ _ => ?_) | assumption))
theorem ok_target (p : T_api_Ins) : Ok (F_retraceref20_target p) := by
  unfold F_retraceref20_target
  refine OkP.bind (ok_Which _) fun _ _ _ => ?_
  (repeat' (with_reducible first | exact OkP.rett _ | refine OkP.condN (fun _ => ?_) (fun _ => ?_) | refine OkP.condD (fun _ => ?_) (fun _ => ?_) | refine OkP.condE (fun _ => ?_) (fun _ => ?_) | refine OkP.condNE (fun _ => ?_) (fun _ => ?_) | refine OkP.condB (fun _ => ?_) (fun _ => ?_) | refine OkP.map ?_ | refine OkP.ret ?_ | refine OkP.at (by omega) (by omega) (fun _ _ => ?_) | refine OkP.sat (by omega) (by omega) (fun _ _ => ?_) | assumption))
theorem ok_Chooses (p : Int) : Ok (F_retraceref20_Chooses p) := by
  have j1 : ∀ x, Ok (F_retraceref20_Chooses_J1 x) := fun x => by unfold F_retraceref20_Chooses_J1; (repeat' (with_reducible first | exact OkP.rett _ | refine OkP.condN (fun _ => ?_) (fun _ => ?_) | refine OkP.condD (fun _ => ?_) (fun _ => ?_) | refine OkP.condE (fun _ => ?_) (fun _ => ?_) | refine OkP.condNE (fun _ => ?_) (fun _ => ?_) | refine OkP.condB (fun _ => ?_) (fun _ => ?_) | refine OkP.map ?_ | refine OkP.ret ?_ | refine OkP.at (by omega) (by omega) (fun _ _ => ?_) | refine OkP.sat (by omega) (by omega) (fun _ _ => ?_) | assumption))
  unfold F_retraceref20_Chooses; repeat' (first | exact j1 _ | (with_reducible first | exact OkP.rett _ | refine OkP.condN (fun _ => ?_) (fun _ => ?_) | refine OkP.condD (fun _ => ?_) (fun _ => ?_) | refine OkP.condE (fun _ => ?_) (fun _ => ?_) | refine OkP.condNE (fun _ => ?_) (fun _ => ?_) | refine OkP.condB (fun _ => ?_) (fun _ => ?_) | refine OkP.map ?_ | refine OkP.ret ?_ | refine OkP.at (by omega) (by omega) (fun _ _ => ?_) | refine OkP.sat (by omega) (by omega) (fun _ _ => ?_) | assumption))
theorem ok_Acts (p : Int) : Ok (F_retraceref20_Acts p) := by
  have j1 : ∀ x, Ok (F_retraceref20_Acts_J1 x) := fun x => by unfold F_retraceref20_Acts_J1; (repeat' (with_reducible first | exact OkP.rett _ | refine OkP.condN (fun _ => ?_) (fun _ => ?_) | refine OkP.condD (fun _ => ?_) (fun _ => ?_) | refine OkP.condE (fun _ => ?_) (fun _ => ?_) | refine OkP.condNE (fun _ => ?_) (fun _ => ?_) | refine OkP.condB (fun _ => ?_) (fun _ => ?_) | refine OkP.map ?_ | refine OkP.ret ?_ | refine OkP.at (by omega) (by omega) (fun _ _ => ?_) | refine OkP.sat (by omega) (by omega) (fun _ _ => ?_) | assumption))
  unfold F_retraceref20_Acts; repeat' (first | exact j1 _ | (with_reducible first | exact OkP.rett _ | refine OkP.condN (fun _ => ?_) (fun _ => ?_) | refine OkP.condD (fun _ => ?_) (fun _ => ?_) | refine OkP.condE (fun _ => ?_) (fun _ => ?_) | refine OkP.condNE (fun _ => ?_) (fun _ => ?_) | refine OkP.condB (fun _ => ?_) (fun _ => ?_) | refine OkP.map ?_ | refine OkP.ret ?_ | refine OkP.at (by omega) (by omega) (fun _ _ => ?_) | refine OkP.sat (by omega) (by omega) (fun _ _ => ?_) | assumption))
theorem ok_Settle (c : T_api_Code) (hi : c.Ins.length ≤ 150) (p : Int) : Ok (F_retraceref20_Settle c p) := by
  unfold F_retraceref20_Settle
  refine Loop_ok (fun s : Int × Int => 0 ≤ s.2 ∧ s.2 ≤ c.Ins.length + 1) (fun s : Int × Int => (c.Ins.length + 1 - s.2).toNat) (fun s ⟨a, b⟩ => ?_) _ ⟨by simp, by show (0 : Int) ≤ _; omega⟩
  obtain ⟨u, i⟩ := s
  replace a : 0 ≤ i := a
  replace b : i ≤ c.Ins.length + 1 := b
  show OkP (F_retraceref20_Settle_L2 c p u i) _
  have j1 : ∀ x, i ≤ c.Ins.length → (x = false → 0 ≤ u ∧ u < c.Ins.length) → OkP (F_retraceref20_Settle_J1 c u i x) (Sum.elim (fun s' : Int × Int => (0 ≤ s'.2 ∧ s'.2 ≤ c.Ins.length + 1) ∧ (c.Ins.length + 1 - s'.2).toNat < (c.Ins.length + 1 - i).toNat) (fun _ => True)) := fun x hi hx => by
    unfold F_retraceref20_Settle_J1
    refine OkP.condB (fun _ => OkP.map (OkP.ret trivial)) (fun e => ?_)
    obtain ⟨p, q⟩ := hx e
    refine OkP.at p q fun y _ => OkP.ret ?_
    rw [w64i (by omega) (by omega)]
    show (0 ≤ i + 1 ∧ i + 1 ≤ _) ∧ (c.Ins.length + 1 - (i + 1)).toNat < _
    omega
  unfold F_retraceref20_Settle_L2
  refine OkP.condD (fun hv => ?_) (fun _ => OkP.map (OkP.ret trivial))
  refine OkP.condD (fun _ => j1 _ hv (fun h => by cases h)) fun h1 => ?_
  refine OkP.condD (fun _ => j1 _ hv (fun h => by cases h)) fun h2 => ?_
  exact OkP.at (by omega) (by omega) fun y _ => j1 _ hv (fun h => ⟨by omega, by omega⟩)
theorem ok_rests (c : T_api_Code) (h : CSmall c) (hg : CGood c) (d : Int) (h0 : 0 ≤ d) (h1 : d < c.Defs.length) (p : Int) : Ok (F_retraceref20_rests c d p) := by
  have j1 : ∀ x, Ok (F_retraceref20_rests_J1 x) := fun x => by unfold F_retraceref20_rests_J1; (repeat' (with_reducible first | exact OkP.rett _ | refine OkP.condN (fun _ => ?_) (fun _ => ?_) | refine OkP.condD (fun _ => ?_) (fun _ => ?_) | refine OkP.condE (fun _ => ?_) (fun _ => ?_) | refine OkP.condNE (fun _ => ?_) (fun _ => ?_) | refine OkP.condB (fun _ => ?_) (fun _ => ?_) | refine OkP.map ?_ | refine OkP.ret ?_ | refine OkP.at (by omega) (by omega) (fun _ _ => ?_) | refine OkP.sat (by omega) (by omega) (fun _ _ => ?_) | assumption))
  unfold F_retraceref20_rests
  refine OkP.bind (ok_Settle c h.ins p) fun y _ _ => OkP.at h0 h1 fun z ez => ?_
  have := hg z (lAt_mem ez)
  refine OkP.condD (fun _ => ?_) (fun _ => j1 _)
  refine OkP.bind (ok_To c h hg d h0 h1) fun t _ ht => ?_
  repeat' (first | exact j1 _ | (with_reducible first | exact OkP.rett _ | refine OkP.condN (fun _ => ?_) (fun _ => ?_) | refine OkP.condD (fun _ => ?_) (fun _ => ?_) | refine OkP.condE (fun _ => ?_) (fun _ => ?_) | refine OkP.condNE (fun _ => ?_) (fun _ => ?_) | refine OkP.condB (fun _ => ?_) (fun _ => ?_) | refine OkP.map ?_ | refine OkP.ret ?_ | refine OkP.at (by omega) (by omega) (fun _ _ => ?_) | refine OkP.sat (by omega) (by omega) (fun _ _ => ?_) | assumption))
theorem ok_may (c : T_api_Code) (h : CSmall c) (hg : CGood c) (d : Int) (h0 : 0 ≤ d) (h1 : d < c.Defs.length) (p k : Int) (hp0 : 0 ≤ p) (hp : p < c.Ins.length) :
    OkP (F_retraceref20_may c d p k) (fun b => b = true → ∀ ins t, lAt c.Ins p = some ins → F_retraceref20_target ins = some (t, true) → 0 ≤ t ∧ t < c.Ins.length) := by
  unfold F_retraceref20_may
  refine OkP.at hp0 hp fun y4 e4 => OkP.at h0 h1 fun y5 e5 => OkP.bind (ok_To c h hg d h0 h1) fun y6 e6 h6 => ?_
  have hE := hg y5 (lAt_mem e5)
  rw [e4]
  let P : Bool → Prop := fun b => b = true → ∀ ins t, some y4 = some ins → F_retraceref20_target ins = some (t, true) → 0 ≤ t ∧ t < c.Ins.length
  show OkP _ P
  have pf : P false := fun h => by cases h
  have j7 : ∀ x, Ok (F_retraceref20_may_J7 x) := fun x => by unfold F_retraceref20_may_J7; (repeat' (with_reducible first | exact OkP.rett _ | refine OkP.condN (fun _ => ?_) (fun _ => ?_) | refine OkP.condD (fun _ => ?_) (fun _ => ?_) | refine OkP.condE (fun _ => ?_) (fun _ => ?_) | refine OkP.condNE (fun _ => ?_) (fun _ => ?_) | refine OkP.condB (fun _ => ?_) (fun _ => ?_) | refine OkP.map ?_ | refine OkP.ret ?_ | refine OkP.at (by omega) (by omega) (fun _ _ => ?_) | refine OkP.sat (by omega) (by omega) (fun _ _ => ?_) | assumption))
  have j6 : Ok (F_retraceref20_may_J6 c d p y4) := by
    unfold F_retraceref20_may_J6
    refine OkP.bind (ok_Acts _) fun _ _ _ => OkP.condN (fun _ => j7 _) fun _ => ?_
    exact OkP.bind (ok_rests c h hg d h0 h1 _) fun _ _ _ => j7 _
  have j8t : OkP (F_retraceref20_may_J8 c d p y4 true) P := ⟨false, rfl, pf⟩
  have j8 : ∀ x, Ok (F_retraceref20_may_J8 c d p y4 x) := fun x => by
    unfold F_retraceref20_may_J8
    exact OkP.condB (fun _ => OkP.rett _) (fun _ => j6)
  have j5 : ∀ x, OkP (F_retraceref20_may_J5 c d p y4 y5 y6 x) P := fun x => by
    unfold F_retraceref20_may_J5
    refine OkP.condB (fun _ => ⟨false, rfl, pf⟩) (fun _ => ?_)
    refine OkP.bind (ok_target y4) fun y e _ => ?_
    refine OkP.condB (fun hy => ?_) (fun hy => j6.mono fun b _ _ _ ins t e1 e2 => ?_)
    · refine OkP.condD (fun _ => j8t) fun a1 => OkP.condD (fun _ => j8t) fun a2 => ?_
      have hP : ∀ b, P b := fun b _ ins t e1 e2 => by
        cases e1
        rw [e] at e2
        obtain rfl := Option.some.inj e2
        exact ⟨by simp at a1; omega, by simp at a2; omega⟩
      refine (?_ : Ok _).mono fun b _ _ => hP b
      have k : Ok ((F_retraceref20_Chooses y4.Op).bind fun y158 => cond y158 ((F_retraceref20_rests c d y.1).bind fun y160 => F_retraceref20_may_J8 c d p y4 (!y160)) (F_retraceref20_may_J8 c d p y4 false)) :=
        OkP.bind (ok_Chooses _) fun _ _ _ => OkP.condB (fun _ => OkP.bind (ok_rests c h hg d h0 h1 _) fun _ _ _ => j8 _) (fun _ => j8 _)
      refine OkP.condD (fun a3 => ?_) (fun _ => k)
      refine OkP.at (by omega) (by omega) fun z _ => ?_
      exact OkP.condNE (fun _ => j8 _) (fun _ => k)
    · cases e1
      rw [e] at e2
      obtain rfl := Option.some.inj e2
      cases hy
  have j4 : ∀ x, OkP (F_retraceref20_may_J4 c d p y4 y5 y6 x) P := fun x => by
    unfold F_retraceref20_may_J4
    refine OkP.condB (fun _ => ⟨false, rfl, pf⟩) (fun _ => ?_)
    repeat' (first | exact j5 _ | (with_reducible first | exact OkP.rett _ | refine OkP.condN (fun _ => ?_) (fun _ => ?_) | refine OkP.condD (fun _ => ?_) (fun _ => ?_) | refine OkP.condE (fun _ => ?_) (fun _ => ?_) | refine OkP.condNE (fun _ => ?_) (fun _ => ?_) | refine OkP.condB (fun _ => ?_) (fun _ => ?_) | refine OkP.map ?_ | refine OkP.ret ?_ | refine OkP.at (by omega) (by omega) (fun _ _ => ?_) | refine OkP.sat (by omega) (by omega) (fun _ _ => ?_) | assumption))
  have j3 : ∀ x, OkP (F_retraceref20_may_J3 c d p y4 y5 y6 x) P := fun x => by
    unfold F_retraceref20_may_J3
    repeat' (first | exact j4 _ | refine OkP.bind (ok_channel c h _ _) (fun _ _ _ => ?_) | (with_reducible first | exact OkP.rett _ | refine OkP.condN (fun _ => ?_) (fun _ => ?_) | refine OkP.condD (fun _ => ?_) (fun _ => ?_) | refine OkP.condE (fun _ => ?_) (fun _ => ?_) | refine OkP.condNE (fun _ => ?_) (fun _ => ?_) | refine OkP.condB (fun _ => ?_) (fun _ => ?_) | refine OkP.map ?_ | refine OkP.ret ?_ | refine OkP.at (by omega) (by omega) (fun _ _ => ?_) | refine OkP.sat (by omega) (by omega) (fun _ _ => ?_) | assumption))
  have j2 : ∀ x, OkP (F_retraceref20_may_J2 c d p y4 y5 y6 x) P := fun x => by
    unfold F_retraceref20_may_J2
    refine OkP.condB (fun _ => ⟨false, rfl, pf⟩) (fun _ => ?_)
    repeat' (first | exact j3 _ | (with_reducible first | exact OkP.rett _ | refine OkP.condN (fun _ => ?_) (fun _ => ?_) | refine OkP.condD (fun _ => ?_) (fun _ => ?_) | refine OkP.condE (fun _ => ?_) (fun _ => ?_) | refine OkP.condNE (fun _ => ?_) (fun _ => ?_) | refine OkP.condB (fun _ => ?_) (fun _ => ?_) | refine OkP.map ?_ | refine OkP.ret ?_ | refine OkP.at (by omega) (by omega) (fun _ _ => ?_) | refine OkP.sat (by omega) (by omega) (fun _ _ => ?_) | assumption))
  have j1 : ∀ x, OkP (F_retraceref20_may_J1 c d p k y4 y5 y6 x) P := fun x => by
    unfold F_retraceref20_may_J1
    refine OkP.condB (fun _ => ⟨false, rfl, pf⟩) (fun _ => ?_)
    repeat' (first | exact j2 _ | (with_reducible first | exact OkP.rett _ | refine OkP.condN (fun _ => ?_) (fun _ => ?_) | refine OkP.condD (fun _ => ?_) (fun _ => ?_) | refine OkP.condE (fun _ => ?_) (fun _ => ?_) | refine OkP.condNE (fun _ => ?_) (fun _ => ?_) | refine OkP.condB (fun _ => ?_) (fun _ => ?_) | refine OkP.map ?_ | refine OkP.ret ?_ | refine OkP.at (by omega) (by omega) (fun _ _ => ?_) | refine OkP.sat (by omega) (by omega) (fun _ _ => ?_) | assumption))
  refine OkP.bind (ok_IRight _) fun _ _ _ => ?_
  repeat' (first | exact j1 _ | (with_reducible first | exact OkP.rett _ | refine OkP.condN (fun _ => ?_) (fun _ => ?_) | refine OkP.condD (fun _ => ?_) (fun _ => ?_) | refine OkP.condE (fun _ => ?_) (fun _ => ?_) | refine OkP.condNE (fun _ => ?_) (fun _ => ?_) | refine OkP.condB (fun _ => ?_) (fun _ => ?_) | refine OkP.map ?_ | refine OkP.ret ?_ | refine OkP.at (by omega) (by omega) (fun _ _ => ?_) | refine OkP.sat (by omega) (by omega) (fun _ _ => ?_) | assumption))
end Go.Ab
