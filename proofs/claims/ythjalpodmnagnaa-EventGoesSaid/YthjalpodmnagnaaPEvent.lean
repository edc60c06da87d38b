/- Events: checks, places, bytes. -/
import Derived.Test.YthjalpodmnagnaaEXWire3
import Derived.Test.YthjalpodmnagnaaGEvX
import Derived.Test.YthjalpodmnagnaaAbScan
namespace Go.Ab
set_option linter.unusedVariables false
abbrev Ev := T_api_Event
def badE (x : Ev × Nat) : Bool := decide (x.1.Kind < 1) || (decide (3 < x.1.Kind) || (decide (x.1.N < 0) || ((x.2 : Int) == 0 && !(x.1.Kind == 1))))
/-- a loop that seeks the first place where p holds -/
theorem Loop_seek {α R : Type} (l : List α) (hl : l.length < 9223372036854775808) (p : α → Bool) (found : Nat → R) (no : R) {step : Int → Option (Int ⊕ R)}
    (h1 : ∀ k (h : k < l.length), step (k : Int) = if p l[k] = true then some (.inr (found k)) else some (.inl (w64 (k + 1)))) (h2 : step (l.length : Int) = some (.inr no)) :
    Loop step 0 = some (match l.findIdx? p with | some k => found k | none => no) := by
  cases e : l.findIdx? p with
  | none =>
    rw [List.findIdx?_eq_none_iff] at e
    refine Loop_nat (fun k => (k : Int)) l.length (fun k hk => ?_) h2
    rw [h1 k hk, if_neg (by rw [e _ (List.getElem_mem hk)]; decide), w64i (by omega) (by omega)]
    rfl
  | some n =>
    rw [List.findIdx?_eq_some_iff_getElem] at e
    obtain ⟨hn, e1, e2⟩ := e
    refine Loop_nat (fun k => (k : Int)) n (fun k hk => ?_) ?_
    · rw [h1 k (by omega), if_neg (by simpa using e2 k hk), w64i (by omega) (by omega)]
      rfl
    · rw [h1 n hn, if_pos e1]
def chk (l : List Ev) : Int × Int := match l.zipIdx.findIdx? badE with | some k => ((k : Int), 3) | none => (0, 0)
theorem check_eq (l : List Ev) (hl : l.length ≤ 65536) : F_event_Check l = some (chk l) := by
  unfold F_event_Check
  rw [dcf (by omega), cond_false]
  have e := Loop_seek (step := fun s : Int => F_event_Check_L2 l s) l.zipIdx (by rw [List.length_zipIdx]; omega) badE (fun k => ((k : Int), (3 : Int))) (0, 0) (fun k hk => ?_) ?_
  · rw [e]; unfold chk; cases l.zipIdx.findIdx? badE <;> rfl
  · rw [List.length_zipIdx] at hk
    show F_event_Check_L2 l (k : Int) = _
    unfold F_event_Check_L2 F_event_Check_J1 badE
    rw [dct (by omega), lAt_lt hk]
    simp only [cond_true, Option.bind_some, List.getElem_zipIdx, Nat.zero_add, bne]
    cases decide (l[k].Kind < 1) <;> cases decide (3 < l[k].Kind) <;> cases decide (l[k].N < 0) <;> cases ((k : Int) == 0) <;> cases (l[k].Kind == 1) <;> rfl
  · show F_event_Check_L2 l (l.zipIdx.length : Int) = _
    unfold F_event_Check_L2
    rw [List.length_zipIdx, dcf (by omega)]; rfl
theorem rcheck_eq (l : List Ev) (hl : l.length ≤ 65536) : F_retraceref31_Check l = some [(chk l).1, (chk l).2] := by
  unfold F_retraceref31_Check
  rw [dcf (by omega), cond_false]
  have e := Loop_seek (step := fun s : Int => F_retraceref31_Check_L2 l s) l.zipIdx (by rw [List.length_zipIdx]; omega) badE (fun k => [(k : Int), (3 : Int)]) [0, 0] (fun k hk => ?_) ?_
  · rw [e]; unfold chk; cases l.zipIdx.findIdx? badE <;> rfl
  · rw [List.length_zipIdx] at hk
    show F_retraceref31_Check_L2 l (k : Int) = _
    unfold F_retraceref31_Check_L2 F_retraceref31_Check_J1 badE
    rw [dct (by omega), lAt_lt hk]
    have g1 : ∀ (x : Int), (grd (([x, 3] : List Int).length = 2 ∧ (List.replicate 2 (0 : Int)).length = 2) <| (grd (([x, 3] : List Int).length = 2) <| some ([x, 3] : List Int)).map (Sum.inr : List Int → Int ⊕ List Int)) = some (.inr [x, 3]) := fun x => by
      rw [grd_t ⟨rfl, by simp⟩, grd_t (by simp)]; rfl
    simp only [cond_true, Option.bind_some, List.getElem_zipIdx, Nat.zero_add, bne, g1]
    cases decide (l[k].Kind < 1) <;> cases decide (3 < l[k].Kind) <;> cases decide (l[k].N < 0) <;> cases ((k : Int) == 0) <;> cases (l[k].Kind == 1) <;> rfl
  · show F_retraceref31_Check_L2 l (l.zipIdx.length : Int) = _
    unfold F_retraceref31_Check_L2
    rw [List.length_zipIdx, dcf (by omega), cond_false, grd_t ⟨rfl, by simp⟩, grd_t (by simp)]; rfl
theorem law_echecks (l : List Ev) (m : Int) (hm : 0 ≤ m ∧ m ≤ 255) : F_retracelaw31_EventChecks l m = some true := by
  unfold F_retracelaw31_EventChecks
  by_cases h : 300 < (l.length : Int)
  · rw [dct h, ev_retracelaw31_live]; rfl
  rw [dcf h, cond_false, check_eq l (by omega), rcheck_eq l (by omega), w64i (n := m) (by omega) (by omega), w64i (n := 65537 + m) (by omega) (by omega)]
  simp only [Option.bind_some]
  rw [grd_t ⟨by omega, by omega, by omega, by omega⟩]
  have : F_event_Check_v2 (List.replicate (65537 + m).toNat ⟨0, 0⟩) = some (65536, 13) := by
    unfold F_event_Check_v2
    rw [List.length_replicate, dct (by omega)]; rfl
  rw [this, ev_retracelaw31_live]
  simp only [Option.bind_some]
  rw [grd_t ⟨rfl, rfl⟩]
  simp [F_retracelaw31_EventChecks_J1]
/-- where steps begin -/
def bgI : List Ev → Int → List Int
  | [], _ => []
  | x :: l, i => (if x.Kind = 1 then [i] else []) ++ bgI l (i + 1)
def bg (l : List Ev) : List Int := bgI l 0
theorem bgI_app : ∀ (a b : List Ev) (i : Int), bgI (a ++ b) i = bgI a i ++ bgI b (i + a.length)
  | [], b, i => by simp [bgI]
  | x :: a, b, i => by
    rw [List.cons_append, bgI, bgI, bgI_app a b (i + 1), List.append_assoc, List.length_cons, show i + 1 + (a.length : Int) = i + ((a.length + 1 : Nat) : Int) by omega]
theorem bgI_len : ∀ (l : List Ev) (i : Int), (bgI l i).length ≤ l.length
  | [], i => Nat.le_refl _
  | x :: l, i => by
    have := bgI_len l (i + 1)
    rw [bgI, List.length_append, List.length_cons]
    split <;> simp <;> omega
theorem bg_snoc {l : List Ev} {k : Nat} (hk : k < l.length) : bg (l.take (k + 1)) = bg (l.take k) ++ (if l[k].Kind = 1 then [(k : Int)] else []) := by
  unfold bg
  rw [take_snoc hk, bgI_app, List.length_take, Nat.min_eq_left (by omega)]
  simp [bgI]
theorem begins_eq (l : List Ev) (hl : l.length ≤ 100000) : F_retraceref31_Begins l = some (bg l) := by
  unfold F_retraceref31_Begins
  have e := Loop_nat (step := fun s : (Int × (List Int)) => F_retraceref31_Begins_L2 l s.1 s.2) (fun k => ((k : Int), bg (l.take k))) l.length (r := bg l) (fun k hk => ?_) ?_
  · exact e
  · show F_retraceref31_Begins_L2 l (k : Int) (bg (l.take k)) = _
    have hb := bgI_len (l.take k) 0
    rw [List.length_take] at hb
    have hb2 : (bg (l.take k)).length ≤ k := by unfold bg; omega
    unfold F_retraceref31_Begins_L2 F_retraceref31_Begins_J1
    rw [dct (by omega), lAt_lt hk, bg_snoc hk, w64s (by omega)]
    simp only [cond_true, Option.bind_some]
    by_cases h : l[k].Kind = 1
    · rw [beqt h, if_pos h, cond_true, grd_t (by simp only [List.length_cons, List.length_nil]; omega)]
    · rw [beqf h, if_neg h, cond_false, List.append_nil]
  · show F_retraceref31_Begins_L2 l (l.length : Int) (bg (l.take l.length)) = _
    unfold F_retraceref31_Begins_L2
    rw [dcf (by omega), List.take_length]; rfl
theorem rsteps_eq (l : List Ev) (hl : l.length ≤ 100000) : F_retraceref31_Steps l = some ((bg l).length : Int) := by
  unfold F_retraceref31_Steps; rw [begins_eq l hl]; rfl
def beginV (l : List Ev) (n : Int) : Int := if n < 0 then -1 else ((bg l ++ [(l.length : Int)])[n.toNat]?).getD (-1)
theorem rbegin_eq (l : List Ev) (n : Int) (hl : l.length ≤ 100000) : F_retraceref31_Begin l n = some (beginV l n) := by
  have hb := bgI_len l 0
  unfold F_retraceref31_Begin F_retraceref31_Begin_J1 beginV
  rw [begins_eq l hl]
  simp only [Option.bind_some]
  have hb2 : (bg l).length ≤ l.length := hb
  rw [grd_t (by simp only [List.length_cons, List.length_nil]; omega)]
  by_cases h : n < 0
  · rw [dct h, if_pos h]; rfl
  rw [dcf h, if_neg h, cond_false]
  by_cases h2 : ((bg l ++ [(l.length : Int)]).length : Int) ≤ n
  · rw [dct h2, List.getElem?_eq_none (by omega)]; rfl
  · rw [dcf h2, cond_false]
    unfold lAt
    rw [if_pos (by omega), List.getElem?_eq_getElem (by omega)]
    rfl
theorem steps_eq (l : List Ev) (hl : l.length ≤ 100000) : F_event_Steps l = some ((bg l).length : Int) := by
  unfold F_event_Steps F_event_begins F_event_begins_1_v2
  simp only [Option.bind_some]
  have e := Loop_nat (step := fun s : (Int × Int) => F_event_begins_1_v2_L2 l s.1 s.2) (fun k => ((k : Int), ((bg (l.take k)).length : Int))) l.length (r := ((bg l).length : Int)) (fun k hk => ?_) ?_
  · have e' : Loop (fun s : (Int × Int) => F_event_begins_1_v2_L2 l s.1 s.2) (0, 0) = some ((bg l).length : Int) := e
    rw [e']; rfl
  · show F_event_begins_1_v2_L2 l (k : Int) _ = _
    have hb := bgI_len (l.take k) 0
    rw [List.length_take] at hb
    have hb2 : (bg (l.take k)).length ≤ k := by unfold bg; omega
    unfold F_event_begins_1_v2_L2 F_event_begins_1_v2_J1 F_R_event_Steps_0
    rw [dct (by omega), lAt_lt hk, bg_snoc hk]
    simp only [cond_true, Option.bind_some]
    by_cases h : l[k].Kind = 1
    · rw [beqt h, if_pos h, cond_true, w64s (k := (bg (l.take k)).length) (by omega), w64s (k := k) (by omega)]; simp
    · rw [beqf h, if_neg h, cond_false, w64s (by omega)]; simp
  · show F_event_begins_1_v2_L2 l (l.length : Int) _ = _
    unfold F_event_begins_1_v2_L2
    rw [dcf (by omega), List.take_length]; rfl
def seekG (s : Int) (x : Ev × Nat) : Int ⊕ ((Int × Int) ⊕ Int) := if x.1.Kind = 1 then (if s = 0 then .inr (.inl (0, (x.2 : Int))) else .inl (s - 1)) else .inl s
theorem seek_scan : ∀ (l : List Ev) (i : Nat) (s : Int), 0 ≤ s → scan seekG (fun s => (.inr s : (Int × Int) ⊕ Int)) (l.zipIdx i) s =
    match (bgI l (i : Int))[s.toNat]? with | some v => .inl (0, v) | none => .inr (s - (bgI l (i : Int)).length)
  | [], i, s, h => by simp [scan, bgI]
  | x :: l, i, s, h => by
    have ih := seek_scan l (i + 1)
    rw [show (((i + 1 : Nat)) : Int) = (i : Int) + 1 by omega] at ih
    rw [List.zipIdx_cons, scan, bgI]
    unfold seekG
    by_cases hk : x.Kind = 1
    · rw [if_pos hk, if_pos hk]
      by_cases h0 : s = 0
      · rw [if_pos h0, h0]; rfl
      · rw [if_neg h0]
        have := ih (s - 1) (by omega)
        unfold seekG at this
        simp only
        rw [this, show s.toNat = (s - 1).toNat + 1 by omega]
        simp only [List.cons_append, List.nil_append, List.getElem?_cons_succ, List.length_cons]
        split
        · rfl
        · congr 1; omega
    · rw [if_neg hk, if_neg hk]
      have := ih s h
      unfold seekG at this
      simp only [List.nil_append]
      exact this
theorem begin_eq (l : List Ev) (n : Int) (hl : l.length ≤ 100000) (hn : n ≤ 9223372036854775807) : F_event_Begin l n = some (beginV l n) := by
  unfold F_event_Begin beginV
  by_cases h : n < 0
  · rw [dct h, if_pos h]; rfl
  rw [dcf h, if_neg h, cond_false]
  unfold F_event_begins F_event_begins_1
  simp only [Option.bind_some]
  have e := Loop_scan (step := fun s : (Int × Int) => F_event_begins_1_L3 0 l s.1 s.2) l.zipIdx (by rw [List.length_zipIdx]; omega) seekG (fun s => (.inr s : (Int × Int) ⊕ Int)) (fun s i => (i, s)) (fun _ s => 0 ≤ s ∧ s ≤ n) (fun k hk s hs => ?_) (fun k hk s s' hs e => ?_) (fun s _ => ?_) n ⟨by omega, Int.le_refl _⟩
  · rw [e]
    simp only [Option.bind_some]
    rw [seek_scan l 0 n (by omega)]
    have hz : bgI l ((0 : Nat) : Int) = bg l := rfl
    rw [hz]
    by_cases hb : n.toNat < (bg l).length
    · rw [List.getElem?_append_left hb, List.getElem?_eq_getElem hb]; rfl
    · rw [List.getElem?_eq_none (by omega)]
      simp only [Sum.elim_inr]
      by_cases hq : n.toNat = (bg l).length
      · rw [beqt (show n - ((bg l).length : Int) = 0 by omega), List.getElem?_append_right (by omega), hq, Nat.sub_self]; rfl
      · rw [beqf (show ¬ n - ((bg l).length : Int) = 0 by omega), List.getElem?_append_right (by omega), List.getElem?_eq_none (by simp only [List.length_cons, List.length_nil]; omega)]; rfl
  · rw [List.length_zipIdx] at hk
    show F_event_begins_1_L3 0 l (k : Int) s = _
    unfold F_event_begins_1_L3 F_event_begins_1_J1 F_event_begins_1_J2 F_R_event_Begin_0 seekG
    rw [dct (by omega), lAt_lt hk]
    simp only [cond_true, Option.bind_some, List.getElem_zipIdx, Nat.zero_add]
    by_cases hk1 : l[k].Kind = 1
    · rw [beqt hk1, if_pos hk1, cond_true]
      by_cases h0 : s = 0
      · rw [beqt h0, if_pos h0, h0]; rfl
      · rw [beqf h0, if_neg h0, w64i (n := s - 1) (by omega) (by omega)]; rfl
    · rw [beqf hk1, if_neg hk1]; rfl
  · unfold seekG at e
    split at e
    · split at e
      · cases e
      · cases e; omega
    · cases e; exact hs
  · show F_event_begins_1_L3 0 l (l.zipIdx.length : Int) s = _
    unfold F_event_begins_1_L3
    rw [List.length_zipIdx, dcf (by omega)]; rfl
theorem law_eplaces (l : List Ev) (n : Int) (hn : n ≤ 9223372036854775807) : F_retracelaw31_EventPlaces l n = some true := by
  unfold F_retracelaw31_EventPlaces
  by_cases h : 300 < (l.length : Int)
  · rw [dct h, ev_retracelaw31_live]; rfl
  rw [dcf h, cond_false, steps_eq l (by omega), rsteps_eq l (by omega), begin_eq l n (by omega) hn, rbegin_eq l n (by omega), ev_retracelaw31_live]
  simp [F_retracelaw31_EventPlaces_J1]
end Go.Ab
