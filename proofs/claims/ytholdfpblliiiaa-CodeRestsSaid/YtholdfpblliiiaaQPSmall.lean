import Derived.Test.YtholdfpblliiiaaQPRight2
namespace Go.Ab
set_option linter.unusedVariables false
theorem ok_Routine (c : T_api_Code) (h : CSmall c) (p : Int) : OkP (F_retraceref20_Routine c p) (fun r => 0 ≤ r → 0 ≤ p ∧ p < c.Ins.length) := by
  have hd := h.defs
  unfold F_retraceref20_Routine
  refine Loop_ok (fun s : Int × Int => 0 ≤ s.2 ∧ s.2 ≤ c.Defs.length ∧ (0 ≤ s.1 → 0 ≤ p ∧ p < c.Ins.length)) (fun s : Int × Int => (c.Defs.length - s.2).toNat) (fun s ⟨a, b, l⟩ => ?_) _ ⟨Int.le_refl _, by show (0 : Int) ≤ _; omega, fun h => by have h' : (0 : Int) ≤ -1 := h; omega⟩
  obtain ⟨u, i⟩ := s
  replace a : 0 ≤ i := a
  replace b : i ≤ c.Defs.length := b
  replace l : 0 ≤ u → 0 ≤ p ∧ p < c.Ins.length := l
  show OkP (F_retraceref20_Routine_L3 c p u i) _
  have j2 : ∀ v, i < c.Defs.length → (0 ≤ v → 0 ≤ p ∧ p < c.Ins.length) → OkP (F_retraceref20_Routine_J2 i v) (Sum.elim (fun s' : Int × Int => (0 ≤ s'.2 ∧ s'.2 ≤ c.Defs.length ∧ (0 ≤ s'.1 → 0 ≤ p ∧ p < c.Ins.length)) ∧ (c.Defs.length - s'.2).toNat < (c.Defs.length - i).toNat) (fun r => 0 ≤ r → 0 ≤ p ∧ p < c.Ins.length)) := fun v hv hp => by
    unfold F_retraceref20_Routine_J2
    rw [w64i (by omega) (by omega)]
    refine OkP.ret ⟨⟨?_, ?_, hp⟩, ?_⟩
    · show 0 ≤ i + 1; omega
    · show i + 1 ≤ _; omega
    · show (c.Defs.length - (i + 1)).toNat < _; omega
  have j1 : ∀ x, (x = true → i < c.Defs.length ∧ 0 ≤ p ∧ p < c.Ins.length) → OkP (F_retraceref20_Routine_J1 c p u i x) (Sum.elim (fun s' : Int × Int => (0 ≤ s'.2 ∧ s'.2 ≤ c.Defs.length ∧ (0 ≤ s'.1 → 0 ≤ p ∧ p < c.Ins.length)) ∧ (c.Defs.length - s'.2).toNat < (c.Defs.length - i).toNat) (fun r => 0 ≤ r → 0 ≤ p ∧ p < c.Ins.length)) := fun x hx => by
    unfold F_retraceref20_Routine_J1
    refine OkP.condB (fun e => ?_) (fun _ => OkP.map (OkP.ret l))
    obtain ⟨q1, q2⟩ := hx e
    exact OkP.at a q1 fun y _ => OkP.condD (fun _ => j2 _ q1 fun _ => q2) (fun _ => j2 _ q1 fun _ => q2)
  unfold F_retraceref20_Routine_L3
  refine OkP.condD (fun h1 => OkP.condD (fun h2 => j1 _ fun e => ?_) (fun _ => j1 _ fun h => by cases h)) (fun _ => j1 _ fun h => by cases h)
  exact ⟨h1, h2, by simpa using e⟩
/-- a loop that seeks the first place where p holds -/
theorem Loop_find {α R : Type} (l : List α) (hl : l.length < 9223372036854775808) (p : α → Bool) (found : Nat → R) (no : R) {step : Int → Option (Int ⊕ R)}
    (h1 : ∀ k (h : k < l.length), step (k : Int) = if p l[k] = true then some (.inr (found k)) else some (.inl (w64 (k + 1)))) (h2 : step (l.length : Int) = some (.inr no)) :
    Loop step 0 = some (match l.findIdx? p with | some k => found k | none => no) := by
  cases e : l.findIdx? p with
  | none =>
    rw [List.findIdx?_eq_none_iff] at e
    refine Loop_nat (fun k => (k : Int)) l.length (fun k hk => ?_) h2
    rw [h1 k hk, if_neg (by rw [e _ (List.getElem_mem hk)]; decide), w64i (by omega) (by omega)]
    rfl
  | some n =>
    rw [List.findIdx?_eq_some_iff_getElem] at e
    obtain ⟨hn, e1, e2⟩ := e
    refine Loop_nat (fun k => (k : Int)) n (fun k hk => ?_) ?_
    · rw [h1 k (by omega), if_neg (by simpa using e2 k hk), w64i (by omega) (by omega)]
      rfl
    · rw [h1 n hn, if_pos e1]
end Go.Ab
