/- The clock: due, woken, ticks. -/
import Derived.Test.YtgihgmnmefbjbaaKPIs
namespace Go.Ab
set_option linter.unusedVariables false
def dueG (m : Int) (s : Int × Bool) (a : T_api_Alt) : Int × Bool := if m = 3 ∧ a.Kind = 3 ∧ (s.2 = false ∨ a.Val < s.1) then (a.Val, true) else s
def due (p : T_api_Proc) : Int × Bool := if p.Mode = 4 then (p.Until, true) else p.Alts.foldl (dueG p.Mode) (0, false)
theorem due_eq (p : T_api_Proc) (hl : p.Alts.length ≤ 40) : F_clock_Due p = some (due p) := by
  unfold F_clock_Due due
  by_cases m4 : p.Mode = 4
  · rw [beqt m4, if_pos m4]; rfl
  rw [beqf m4, if_neg m4, cond_false]
  refine Loop_fold p.Alts (by omega) (dueG p.Mode) id (fun s i => (s.1, s.2, i)) (fun _ _ => True) (fun k hk s _ => ?_) (fun _ _ _ _ => trivial) (fun s _ => ?_) (0, false) trivial
  · show F_clock_Due_L3 p s.1 s.2 (k : Int) = _
    unfold F_clock_Due_L3 F_clock_Due_J2 F_clock_Due_J1
    rw [dct (by omega), lAt_lt hk]
    simp only [cond_true, Option.bind_some]
    obtain ⟨x, b⟩ := s
    unfold dueG
    by_cases m3 : p.Mode = 3
    · rw [beqt m3, cond_true]
      by_cases k3 : p.Alts[k].Kind = 3
      · rw [beqt k3, cond_true]
        cases b with
        | false => rw [if_pos ⟨m3, k3, .inl rfl⟩]; rfl
        | true =>
          simp only [Bool.not_true, cond_false]
          by_cases v : p.Alts[k].Val < x
          · rw [dct v, if_pos ⟨m3, k3, .inr v⟩]; rfl
          · rw [dcf v, if_neg (fun h => by rcases h.2.2 with e | e; · cases e
                                           · exact v e)]; rfl
      · rw [beqf k3, if_neg (fun h => k3 h.2.1)]; rfl
    · rw [beqf m3, if_neg (fun h => m3 h.1)]; rfl
  · show F_clock_Due_L3 p s.1 s.2 (p.Alts.length : Int) = _
    unfold F_clock_Due_L3
    rw [dcf (by omega)]; rfl
def vals (l : List T_api_Alt) : List Int := (l.filter (fun a => a.Kind == 3)).map (fun a => a.Val)
theorem vals_cons (a : T_api_Alt) (l : List T_api_Alt) : vals (a :: l) = if a.Kind = 3 then a.Val :: vals l else vals l := by
  unfold vals
  rw [List.filter_cons]
  by_cases h : a.Kind = 3
  · rw [if_pos h, beqt h, if_pos rfl]; rfl
  · rw [if_neg h, beqf h]; rfl
def least (x y : Int) : Int := if y < x then y else x
theorem fold_none (m : Int) (hm : ¬ m = 3) : ∀ (l : List T_api_Alt) (s : Int × Bool), l.foldl (dueG m) s = s
  | [], s => rfl
  | a :: l, s => by
    have : dueG m s a = s := if_neg (fun h => hm h.1)
    rw [List.foldl_cons, this]; exact fold_none m hm l s
theorem fold_t : ∀ (l : List T_api_Alt) (x : Int), l.foldl (dueG 3) (x, true) = ((vals l).foldl least x, true)
  | [], x => rfl
  | a :: l, x => by
    rw [List.foldl_cons, vals_cons]
    by_cases k3 : a.Kind = 3
    · rw [if_pos k3, List.foldl_cons]
      have : dueG 3 (x, true) a = (least x a.Val, true) := by
        unfold dueG least
        by_cases v : a.Val < x
        · rw [if_pos ⟨rfl, k3, .inr v⟩, if_pos v]
        · rw [if_neg (fun h => by rcases h.2.2 with e | e; · cases e
                                  · exact v e), if_neg v]
      rw [this]; exact fold_t l _
    · rw [if_neg k3]
      have : dueG 3 (x, true) a = (x, true) := if_neg (fun h => k3 h.2.1)
      rw [this]; exact fold_t l x
theorem fold_f : ∀ (l : List T_api_Alt), l.foldl (dueG 3) (0, false) = match vals l with | [] => (0, false) | t :: r => (r.foldl least t, true)
  | [] => rfl
  | a :: l => by
    rw [List.foldl_cons, vals_cons]
    by_cases k3 : a.Kind = 3
    · rw [if_pos k3]
      have : dueG 3 (0, false) a = (a.Val, true) := if_pos ⟨rfl, k3, .inl rfl⟩
      rw [this]; exact fold_t l _
    · rw [if_neg k3]
      have : dueG 3 (0, false) a = (0, false) := if_neg (fun h => k3 h.2.1)
      rw [this]; exact fold_f l
theorem times_eq (p : T_api_Proc) (hl : p.Alts.length ≤ 40) : F_retraceref26_Times p = some ((if p.Mode = 4 then [p.Until] else []) ++ (if p.Mode = 3 then vals p.Alts else [])) := by
  have key : ∀ x : List Int, x.length ≤ 1 → F_retraceref26_Times_J1 p x = some (x ++ (if p.Mode = 3 then vals p.Alts else [])) := fun x hx => by
    unfold F_retraceref26_Times_J1
    by_cases m3 : p.Mode = 3
    · rw [if_pos m3]
      have e := Loop_fold (step := fun s : (Int × (List Int)) => F_retraceref26_Times_L4 p s.1 s.2) p.Alts (by omega) (fun s a => if a.Kind = 3 then s ++ [a.Val] else s) id (fun s i => (i, s)) (fun k s => s.length ≤ k + 1) (fun k hk s hs => ?_) (fun k hk s hs => ?_) (fun s _ => ?_) x (by omega)
      · rw [e]
        have : ∀ (l : List T_api_Alt) (s : List Int), l.foldl (fun s a => if a.Kind = 3 then s ++ [a.Val] else s) s = s ++ vals l := by
          intro l
          induction l with
          | nil => intro s; simp [vals]
          | cons a l ih =>
            intro s
            rw [List.foldl_cons, ih, vals_cons]
            by_cases k3 : a.Kind = 3
            · rw [if_pos k3, if_pos k3]; simp
            · rw [if_neg k3, if_neg k3]
        rw [this]; rfl
      · show F_retraceref26_Times_L4 p (k : Int) s = _
        unfold F_retraceref26_Times_L4 F_retraceref26_Times_J2 F_retraceref26_Times_J3
        rw [dct (by omega), lAt_lt hk, beqt m3]
        simp only [cond_true, Option.bind_some]
        by_cases k3 : p.Alts[k].Kind = 3
        · rw [beqt k3, if_pos k3, cond_true, grd_t (by simp; omega)]
        · rw [beqf k3, if_neg k3, cond_false]
      · show (if p.Alts[k].Kind = 3 then s ++ [p.Alts[k].Val] else s).length ≤ k + 1 + 1
        split
        · simp; omega
        · omega
      · show F_retraceref26_Times_L4 p (p.Alts.length : Int) s = _
        unfold F_retraceref26_Times_L4 F_retraceref26_Times_J2
        rw [dcf (by omega)]; rfl
    · rw [if_neg m3, List.append_nil]
      refine Loop_inr ?_
      show F_retraceref26_Times_L4 p 0 x = _
      unfold F_retraceref26_Times_L4 F_retraceref26_Times_J2
      rw [beqf m3]
      cases decide ((0 : Int) < (p.Alts.length : Int)) <;> rfl
  unfold F_retraceref26_Times
  by_cases m4 : p.Mode = 4
  · rw [beqt m4, if_pos m4, cond_true, grd_t (by simp), key _ (by simp)]
  · rw [beqf m4, if_neg m4, cond_false, key _ (by simp)]
theorem rdue_eq (p : T_api_Proc) (hl : p.Alts.length ≤ 40) : F_retraceref26_Due p = some ⟨(due p).1, (due p).2⟩ := by
  have key : ∀ (t : Int) (r : List Int), r.length ≤ 40 → Loop (fun s : (Int × Int) => F_retraceref26_Due_L1 (t :: r) s.1 s.2) (1, t) = some ⟨r.foldl least t, true⟩ := fun t r hr => by
    have step : F_retraceref26_Due_L1 (t :: r) 0 t = some (.inl (1, t)) := by
      unfold F_retraceref26_Due_L1
      rw [dct (by simp only [List.length_cons]; omega)]
      have : lAt (t :: r) 0 = some t := rfl
      rw [this]
      simp only [cond_true, Option.bind_some, Int.zero_add]
      rw [if_neg (by omega), w64i (by omega) (by omega)]
    have e := Loop_fold (step := fun s : (Int × Int) => F_retraceref26_Due_L1 (t :: r) s.1 s.2) (t :: r) (by simp only [List.length_cons]; omega) least (fun s => (⟨s, true⟩ : T_retraceref26_Time)) (fun s i => (i, s)) (fun _ _ => True) (fun k hk s _ => ?_) (fun _ _ _ _ => trivial) (fun s _ => ?_) t trivial
    · rw [Loop_inl (step := fun s : (Int × Int) => F_retraceref26_Due_L1 (t :: r) s.1 s.2) (s := (0, t)) step] at e
      rw [e, List.foldl_cons]
      have : least t t = t := by unfold least; rw [if_neg (by omega)]
      rw [this]
    · show F_retraceref26_Due_L1 (t :: r) (k : Int) s = _
      unfold F_retraceref26_Due_L1
      rw [dct (by omega), lAt_lt hk]
      rfl
    · show F_retraceref26_Due_L1 (t :: r) ((t :: r).length : Int) s = _
      unfold F_retraceref26_Due_L1
      rw [dcf (by omega)]; rfl
  have len : ∀ l : List T_api_Alt, (vals l).length ≤ l.length := fun l => by
    unfold vals; rw [List.length_map]; exact List.length_filter_le _ _
  unfold F_retraceref26_Due due
  rw [times_eq p hl]
  simp only [Option.bind_some]
  by_cases m4 : p.Mode = 4
  · rw [if_pos m4, if_pos m4, if_neg (show ¬ p.Mode = 3 by omega)]
    have : (((([p.Until] ++ ([] : List Int)).length : Nat) : Int) == 0) = false := rfl
    rw [this, cond_false]
    exact key p.Until [] (by simp)
  · rw [if_neg m4, if_neg m4, List.nil_append]
    by_cases m3 : p.Mode = 3
    · rw [if_pos m3, m3, fold_f]
      have hl2 := len p.Alts
      cases e : vals p.Alts with
      | nil => rfl
      | cons t r =>
        rw [e] at hl2
        have : ((((t :: r).length : Nat) : Int) == 0) = false := by simp only [List.length_cons, beq_eq_false_iff_ne]; omega
        rw [this, cond_false]
        exact key t r (by simp only [List.length_cons] at hl2; omega)
    · rw [if_neg m3, fold_none p.Mode m3]
      rfl
theorem waits_eq (l : List T_api_Proc) (hl : l.length ≤ 20) (ha : ∀ p ∈ l, p.Alts.length ≤ 40) : F_clock_Waits_v2 l = some (l.any fun p => (due p).2) := by
  have e : F_slices_IndexFunc_retrace_api_Proc_retrace_api_Proc l = some (match l.findIdx? (fun p => (due p).2) with | some k => (k : Int) | none => -1) := by
    unfold F_slices_IndexFunc_retrace_api_Proc_retrace_api_Proc
    refine Loop_find l (by omega) (fun p => (due p).2) (fun k => (k : Int)) (-1) (fun k hk => ?_) ?_
    · unfold F_slices_IndexFunc_retrace_api_Proc_retrace_api_Proc_L1 F_clock_Waits_1
      rw [dct (by omega), lAt_lt hk]
      simp only [cond_true, Option.bind_some]
      rw [due_eq _ (ha _ (List.getElem_mem hk))]
      simp only [Option.bind_some]
      cases (due l[k]).2 <;> rfl
    · unfold F_slices_IndexFunc_retrace_api_Proc_retrace_api_Proc_L1
      rw [dcf (by omega)]; rfl
  unfold F_clock_Waits_v2 F_slices_ContainsFunc_retrace_api_Proc_retrace_api_Proc
  rw [e]
  simp only [Option.bind_some]
  cases h : l.findIdx? (fun p => (due p).2) with
  | none =>
    rw [List.findIdx?_eq_none_iff] at h
    have : (l.any fun p => (due p).2) = false := by
      rw [List.any_eq_false]; intro x hx; rw [h x hx]; decide
    rw [this]; rfl
  | some k =>
    rw [List.findIdx?_eq_some_iff_getElem] at h
    obtain ⟨hk, h1, _⟩ := h
    have : (l.any fun p => (due p).2) = true := List.any_eq_true.mpr ⟨l[k], List.getElem_mem hk, h1⟩
    rw [this]
    show some (decide ((0 : Int) ≤ (k : Int))) = _
    rw [dct (by omega)]
theorem law_due (c : T_api_Code) (ps : List T_api_Proc) (dn : ∀ d ∈ c.Defs, d.Name.size ≤ maxLen) (cn : ∀ d ∈ c.Chans, d.Name.size ≤ maxLen) : F_retracelaw26_ClockDue c ps = some true := by
  unfold F_retracelaw26_ClockDue

  obtain ⟨s, es, hs⟩ := ok_small c ps dn cn
  rw [es, ev_retracelaw26_live]
  cases s with
  | false => rfl
  | true =>
  have hp := hs rfl
  have hlen := hp.len
  simp only [Option.bind_some, Bool.not_true, cond_false]
  have e := Loop_fold (step := fun s : (Bool × Int) => F_retracelaw26_ClockDue_L4 ps s.1 s.2) ps (by omega) (fun s p => s || (due p).2) (fun s => true) (fun s i => (s, i)) (fun k s => s = (ps.take k).any (fun p => (due p).2)) (fun k hk s _ => ?_) (fun k hk s hi => ?_) (fun s hi => ?_) false rfl
  · exact e
  · show F_retracelaw26_ClockDue_L4 ps s (k : Int) = _
    unfold F_retracelaw26_ClockDue_L4 F_retracelaw26_ClockDue_J2 F_retracelaw26_ClockDue_J1
    have hm := (hp.each _ (List.getElem_mem hk)).1
    rw [dct (by omega), lAt_lt hk]
    simp only [cond_true, Option.bind_some, due_eq _ hm, rdue_eq _ hm, bne, beq_self_eq_true, Bool.not_true, cond_false]
    cases s <;> rfl
  · rw [take_snoc hk, List.any_append, hi]
    simp
  · show F_retracelaw26_ClockDue_L4 ps s (ps.length : Int) = _
    rw [List.take_length] at hi
    unfold F_retracelaw26_ClockDue_L4 F_retracelaw26_ClockDue_J3
    rw [dcf (by omega), waits_eq ps hp.len (fun p h => (hp.each p h).1), ev_retracelaw26_live, hi]
    simp
end Go.Ab
