/- Patches played: labels, bounds and all instructions. -/
import Derived.Test.YtilfkpmojnammaaPPatch0
import Derived.Test.YtilfkpmojnammaaAbScan
namespace Go.Ab
set_option linter.unusedVariables false
abbrev Ac := T_retraceref17_Act
abbrev As := List T_patch_cell × List Int
def isI (x : Ac) : Bool := x.Kind == 0 || x.Kind == 2
/-- where a label lies -/
def lbl (ls : List Int) (n : Int) : Int := if 1 ≤ n then (ls[(n - 1).toNat]?).getD (-1) else -1
def bstep (n : Int) (s : Int × Int × Int) (x : Ac) : Int × Int × Int :=
  if isI x = true then (s.1, s.2.1, s.2.2 + 1) else if x.Kind = 1 then (s.1, s.2.1 + 1, s.2.2)
  else if x.Label = n ∧ 1 ≤ n ∧ n ≤ s.2.1 ∧ s.1 < 0 then (s.2.2, s.2.1, s.2.2) else s
def bf (t : List Ac) (n : Int) : Int × Int × Int := t.foldl (bstep n) (-1, 0, 0)
def celf (x : Ac) : T_patch_cell := if x.Kind = 0 then ⟨x.X, 0, false⟩ else ⟨x.X, x.Label, true⟩
def astep (s : As) (x : Ac) : As :=
  if isI x = true then (s.1 ++ [celf x], s.2) else if x.Kind = 1 then (s.1, s.2 ++ [-1])
  else if 1 ≤ x.Label ∧ x.Label ≤ s.2.length ∧ lbl s.2 x.Label < 0 then (s.1, s.2.set (x.Label - 1).toNat s.1.length) else s
def asm (t : List Ac) : As := t.foldl astep ([], [])
theorem asm_snoc (t : List Ac) (x : Ac) : asm (t ++ [x]) = astep (asm t) x := by unfold asm; rw [List.foldl_append]; rfl
theorem bf_snoc (t : List Ac) (x : Ac) (n : Int) : bf (t ++ [x]) n = bstep n (bf t n) x := by unfold bf; rw [List.foldl_append]; rfl
def RelAB (n : Int) (s : As) (b : Int × Int × Int) : Prop := (s.1.length : Int) = b.2.2 ∧ (s.2.length : Int) = b.2.1 ∧ b.1 = lbl s.2 n ∧ -1 ≤ b.1
theorem lbl_out {ls : List Int} {n : Int} (h : ¬ (1 ≤ n ∧ n ≤ ls.length)) : lbl ls n = -1 := by
  unfold lbl
  split
  · rw [List.getElem?_eq_none (by omega)]; rfl
  · rfl
theorem lbl_set (ls : List Int) (m v n : Int) (h1 : 1 ≤ m) (h2 : m ≤ ls.length) : lbl (ls.set (m - 1).toNat v) n = if n = m then v else lbl ls n := by
  unfold lbl
  by_cases e : n = m
  · subst e
    rw [if_pos h1, if_pos rfl, List.getElem?_set_self (by omega)]; rfl
  · rw [if_neg e]
    by_cases q : 1 ≤ n
    · rw [if_pos q, if_pos q, List.getElem?_set_ne (by omega)]
    · rw [if_neg q, if_neg q]
theorem lbl_app (ls : List Int) (n : Int) : lbl (ls ++ [-1]) n = lbl ls n := by
  unfold lbl
  by_cases q : 1 ≤ n
  · rw [if_pos q, if_pos q]
    rcases Nat.lt_trichotomy (n - 1).toNat ls.length with h | h | h
    · rw [List.getElem?_append_left h]
    · rw [List.getElem?_append_right (by omega), h, Nat.sub_self, List.getElem?_eq_none (Nat.le_refl _)]; rfl
    · rw [List.getElem?_append_right (by omega), List.getElem?_eq_none (l := ls) (by omega), List.getElem?_eq_none (by simp; omega)]
  · rw [if_neg q, if_neg q]
theorem rel_step {n : Int} {s : As} {b : Int × Int × Int} (h : RelAB n s b) (x : Ac) : RelAB n (astep s x) (bstep n b x) := by
  obtain ⟨h1, h2, h3, h4⟩ := h
  unfold astep bstep
  by_cases hi : isI x = true
  · rw [if_pos hi, if_pos hi]
    exact ⟨by simp; omega, h2, h3, h4⟩
  rw [if_neg hi, if_neg hi]
  by_cases hk : x.Kind = 1
  · rw [if_pos hk, if_pos hk]
    exact ⟨h1, by simp; omega, by rw [lbl_app]; exact h3, h4⟩
  rw [if_neg hk, if_neg hk]
  by_cases hx : 1 ≤ x.Label ∧ x.Label ≤ s.2.length ∧ lbl s.2 x.Label < 0
  · rw [if_pos hx]
    by_cases hb : x.Label = n ∧ 1 ≤ n ∧ n ≤ b.2.1 ∧ b.1 < 0
    · rw [if_pos hb]
      refine ⟨h1, by simp; omega, ?_, by show -1 ≤ b.2.2; omega⟩
      rw [lbl_set _ _ _ _ hx.1 hx.2.1, if_pos hb.1.symm]; exact h1.symm
    · rw [if_neg hb]
      refine ⟨h1, by simp; omega, ?_, h4⟩
      have hne : ¬ n = x.Label := fun e => hb ⟨e.symm, by omega, by omega, by rw [h3, e]; exact hx.2.2⟩
      rw [lbl_set _ _ _ _ hx.1 hx.2.1, if_neg hne]; exact h3
  · rw [if_neg hx]
    by_cases hb : x.Label = n ∧ 1 ≤ n ∧ n ≤ b.2.1 ∧ b.1 < 0
    · exact absurd ⟨by omega, by omega, by rw [hb.1, ← h3]; exact hb.2.2.2⟩ hx
    · rw [if_neg hb]; exact ⟨h1, h2, h3, h4⟩
theorem rel_fold (n : Int) : ∀ (t : List Ac) (s : As) (b : Int × Int × Int), RelAB n s b → RelAB n (t.foldl astep s) (t.foldl (bstep n) b)
  | [], s, b, h => h
  | x :: t, s, b, h => rel_fold n t _ _ (rel_step h x)
theorem rel_all (n : Int) (t : List Ac) : RelAB n (asm t) (bf t n) := rel_fold n t _ _ ⟨rfl, rfl, by rw [lbl_out (by simp; omega)], by simp⟩
theorem bnd_step (n : Int) (s : Int × Int × Int) (x : Ac) (k : Int) (h : -1 ≤ s.1 ∧ s.1 ≤ k ∧ 0 ≤ s.2.1 ∧ s.2.1 ≤ k ∧ 0 ≤ s.2.2 ∧ s.2.2 ≤ k) :
    -1 ≤ (bstep n s x).1 ∧ (bstep n s x).1 ≤ k + 1 ∧ 0 ≤ (bstep n s x).2.1 ∧ (bstep n s x).2.1 ≤ k + 1 ∧ 0 ≤ (bstep n s x).2.2 ∧ (bstep n s x).2.2 ≤ k + 1 := by
  unfold bstep
  split
  · simp only; omega
  · split
    · simp only; omega
    · split
      · simp only; omega
      · omega
theorem bound_eq (t : List Ac) (n : Int) (ht : t.length ≤ 100) : F_retraceref17_bound t n = some [(bf t n).1, (bf t n).2.1] := by
  unfold F_retraceref17_bound
  refine Loop_fold (step := fun s : (Int × Int × Int × Int) => F_retraceref17_bound_L4 t n s.1 s.2.1 s.2.2.1 s.2.2.2) t (by omega) (bstep n) (fun s => [s.1, s.2.1]) (fun s i => (s.1, s.2.1, s.2.2, i)) (fun k s => -1 ≤ s.1 ∧ s.1 ≤ k ∧ 0 ≤ s.2.1 ∧ s.2.1 ≤ k ∧ 0 ≤ s.2.2 ∧ s.2.2 ≤ k) (fun k hk s hs => ?_) (fun k hk s hs => ?_) (fun s _ => ?_) (-1, 0, 0) (by simp)
  · obtain ⟨a, L, c⟩ := s
    replace hs : -1 ≤ a ∧ a ≤ k ∧ 0 ≤ L ∧ L ≤ k ∧ 0 ≤ c ∧ c ≤ k := hs
    show F_retraceref17_bound_L4 t n a L c (k : Int) = _
    unfold F_retraceref17_bound_L4 F_retraceref17_bound_J2 F_retraceref17_bound_J3 F_retraceref17_bound_J1
    rw [dct (by omega), lAt_lt hk, w64i (n := c + 1) (by omega) (by omega), w64i (n := L + 1) (by omega) (by omega)]
    simp only [cond_true, Option.bind_some]
    unfold bstep isI
    generalize t[k] = x
    by_cases k0 : x.Kind = 0
    · rw [beqt k0]; rfl
    rw [beqf k0]
    by_cases k2 : x.Kind = 2
    · rw [beqt k2]; rfl
    rw [beqf k2]
    simp only [cond_false, Bool.or_self, Bool.false_eq_true, if_false]
    by_cases k1 : x.Kind = 1
    · rw [beqt k1, if_pos k1]; rfl
    rw [beqf k1, if_neg k1, cond_false]
    by_cases e1 : x.Label = n
    · rw [beqt e1]
      by_cases e2 : 1 ≤ n
      · rw [dct e2]
        by_cases e3 : n ≤ L
        · rw [dct e3]
          by_cases e4 : a < 0
          · rw [dct e4, if_pos ⟨e1, e2, e3, e4⟩]; rfl
          · rw [dcf e4, if_neg (fun h => e4 h.2.2.2)]; rfl
        · rw [dcf e3, if_neg (fun h => e3 h.2.2.1)]; rfl
      · rw [dcf e2, if_neg (fun h => e2 h.2.1)]; rfl
    · rw [beqf e1, if_neg (fun h => e1 h.1)]; rfl
  · have := bnd_step n s t[k] k hs
    simpa using this
  · show F_retraceref17_bound_L4 t n s.1 s.2.1 s.2.2 (t.length : Int) = _
    unfold F_retraceref17_bound_L4
    rw [dcf (by omega), cond_false, grd_t ⟨rfl, by simp⟩, grd_t (by simp)]
    rfl
theorem cnt_fold (n : Int) : ∀ (t : List Ac) (s : Int × Int × Int), t.foldl (fun c x => if isI x = true then c + 1 else c) s.2.2 = (t.foldl (bstep n) s).2.2
  | [], s => rfl
  | x :: t, s => by
    rw [List.foldl_cons, List.foldl_cons, ← cnt_fold n t]
    congr 1
    unfold bstep
    split
    · rfl
    · split
      · rfl
      · split <;> rfl
theorem counts_eq (t : List Ac) (ht : t.length ≤ 100) : F_retraceref17_Counts t = some [(bf t 0).2.2, (bf t 0).2.1] := by
  unfold F_retraceref17_Counts
  have e := Loop_fold (step := fun s : (Int × Int) => F_retraceref17_Counts_L3 t s.1 s.2) t (by omega) (fun (c : Int) x => if isI x = true then c + 1 else c) (fun s => [s, (bf t 0).2.1]) (fun s i => (s, i)) (fun k s => 0 ≤ s ∧ s ≤ k) (fun k hk s hs => ?_) (fun k hk s hs => ?_) (fun s _ => ?_) 0 (by simp)
  · rw [e]
    have := cnt_fold 0 t (-1, 0, 0)
    simp only at this
    rw [this]; rfl
  · show F_retraceref17_Counts_L3 t s (k : Int) = _
    unfold F_retraceref17_Counts_L3 F_retraceref17_Counts_J2 F_retraceref17_Counts_J1
    rw [dct (by omega), lAt_lt hk, w64i (n := s + 1) (by omega) (by omega)]
    simp only [cond_true, Option.bind_some]
    unfold isI
    cases (t[k].Kind == 0) <;> cases (t[k].Kind == 2) <;> rfl
  · show 0 ≤ (if isI t[k] = true then s + 1 else s) ∧ (if isI t[k] = true then s + 1 else s) ≤ ((k + 1 : Nat) : Int)
    split <;> omega
  · show F_retraceref17_Counts_L3 t s (t.length : Int) = _
    unfold F_retraceref17_Counts_L3
    rw [dcf (by omega), cond_false, bound_eq t 0 ht]
    simp only [Option.bind_some]
    have : aAt 2 [(bf t 0).1, (bf t 0).2.1] 1 = some (bf t 0).2.1 := rfl
    rw [this]
    simp only [Option.bind_some]
    rw [grd_t ⟨rfl, by simp⟩, grd_t (by simp)]
    rfl
def bindE (t : List Ac) (n : Int) : Int := if n < 1 ∨ (bf t n).2.1 < n then 1 else if 0 ≤ (bf t n).1 then 8 else 0
theorem rbind_eq (t : List Ac) (n : Int) (ht : t.length ≤ 100) : F_retraceref17_Bind t n = some (bindE t n) := by
  unfold F_retraceref17_Bind F_retraceref17_Bind_J1 bindE
  rw [bound_eq t n ht]
  simp only [Option.bind_some]
  have e0 : aAt 2 [(bf t n).1, (bf t n).2.1] 0 = some (bf t n).1 := rfl
  have e1 : aAt 2 [(bf t n).1, (bf t n).2.1] 1 = some (bf t n).2.1 := rfl
  rw [grd_t ⟨rfl, by simp⟩, e0, e1]
  simp only [Option.bind_some]
  by_cases h : n < 1
  · rw [dct h, if_pos (.inl h)]; rfl
  rw [dcf h]
  by_cases h2 : (bf t n).2.1 < n
  · rw [dct h2, if_pos (.inr h2)]; rfl
  rw [dcf h2, if_neg (fun q => q.elim h h2)]
  by_cases h3 : 0 ≤ (bf t n).1
  · rw [dct h3, if_pos h3]; rfl
  · rw [dcf h3, if_neg h3]; rfl
theorem has_eq (n : Int) (a : As) : F_patch_Asm_has n ⟨a.1, a.2⟩ = some (decide (1 ≤ n ∧ n ≤ a.2.length)) := by
  unfold F_patch_Asm_has F_patch_Asm_has_J1
  by_cases h1 : 1 ≤ n <;> by_cases h2 : n ≤ (a.2.length : Int) <;> simp [h1, h2]
theorem lab_at {ls : List Int} {n : Int} (h : 1 ≤ n ∧ n ≤ ls.length) : lAt ls (w64 (n - 1)) = some (lbl ls n) ∨ 9223372036854775807 < (ls.length : Int) := by
  by_cases q : 9223372036854775807 < (ls.length : Int)
  · exact .inr q
  · left
    rw [w64i (by omega) (by omega)]
    unfold lAt lbl
    rw [if_pos (by omega), if_pos h.1, List.getElem?_eq_getElem (by omega)]
    rfl
theorem bind_eq (t : List Ac) (x : Ac) (ht : t.length ≤ 100) (h0 : ¬ isI x = true) (h1 : ¬ x.Kind = 1) (hl : ((asm t).2.length : Int) ≤ 1000) :
    F_patch_Asm_Bind x.Label ⟨(asm t).1, (asm t).2⟩ = some (bindE t x.Label, ⟨(astep (asm t) x).1, (astep (asm t) x).2⟩) := by
  obtain ⟨r1, r2, r3, r4⟩ := rel_all x.Label t
  unfold F_patch_Asm_Bind
  rw [has_eq]
  simp only [Option.bind_some]
  unfold astep bindE
  rw [if_neg h0, if_neg h1]
  generalize hb : bf t x.Label = b at r1 r2 r3 r4
  by_cases h : 1 ≤ x.Label ∧ x.Label ≤ ((asm t).2.length : Int)
  · rw [dct h]
    rw [(lab_at h).resolve_right (by omega), ← r3]
    simp only [Bool.not_true, cond_false, Option.bind_some]
    rw [if_neg (show ¬ (x.Label < 1 ∨ b.2.1 < x.Label) by omega)]
    by_cases h3 : 0 ≤ b.1
    · rw [dct h3, if_pos h3, if_neg (fun q => by have := q.2.2; omega)]; rfl
    · rw [dcf h3, if_neg h3, if_pos ⟨h.1, h.2, by omega⟩, w64i (by omega) (by omega), cond_false, grd_t ⟨by omega, by show x.Label - 1 < ((asm t).2.length : Int); omega⟩]
  · rw [dcf h, if_pos (show x.Label < 1 ∨ b.2.1 < x.Label by omega), if_neg (fun q => h ⟨q.1, q.2.1⟩)]; rfl
theorem put_eq (a : As) (x : Ac) (hx : x.Kind = 0) (hl : a.1.length ≤ 1000) : F_patch_Asm_Put ⟨a.1, a.2⟩ [x.X] = some ((a.1.length : Int), ⟨(astep a x).1, (astep a x).2⟩) := by
  have e : astep a x = (a.1 ++ [⟨x.X, 0, false⟩], a.2) := by
    unfold astep isI celf
    rw [beqt hx, Bool.true_or, if_pos rfl, if_pos hx]
  rw [e]
  unfold F_patch_Asm_Put
  have h1 : F_patch_Asm_Put_L1 ⟨a.1, a.2⟩ [x.X] 0 a.1 = some (.inl (1, a.1 ++ [⟨x.X, 0, false⟩])) := by
    unfold F_patch_Asm_Put_L1
    have : lAt [x.X] 0 = some x.X := rfl
    rw [dct (by simp), this]
    simp only [cond_true, Option.bind_some]
    rw [grd_t (by simp only [List.length_cons, List.length_nil]; omega), w64i (by omega) (by omega)]
    rfl
  have h2 : F_patch_Asm_Put_L1 ⟨a.1, a.2⟩ [x.X] 1 (a.1 ++ [⟨x.X, 0, false⟩]) = some (.inr ((a.1.length : Int), ⟨a.1 ++ [⟨x.X, 0, false⟩], a.2⟩)) := by
    unfold F_patch_Asm_Put_L1
    rw [dcf (by simp)]; rfl
  rw [Loop_inl (step := fun s : (Int × (List T_patch_cell)) => F_patch_Asm_Put_L1 ⟨a.1, a.2⟩ [x.X] s.1 s.2) (s := (0, a.1)) h1]
  exact Loop_inr h2
def gotG (ls : List Int) (acc : List T_api_Ins) (c : T_patch_cell) : List T_api_Ins ⊕ (List T_api_Ins × Int) :=
  if c.aimed = false then .inl (acc ++ [c.Ins]) else if ¬ (1 ≤ c.label ∧ c.label ≤ ls.length) then .inr ([], 1) else if lbl ls c.label < 0 then .inr ([], 7) else .inl (acc ++ [pt_a c.Ins (lbl ls c.label)])
theorem done_eq (a : As) (hc : a.1.length ≤ 1000) (hl : (a.2.length : Int) ≤ 1000) : F_patch_Asm_Done ⟨a.1, a.2⟩ = some (scan (gotG a.2) (fun acc => (acc, 0)) a.1 []) := by
  unfold F_patch_Asm_Done
  refine Loop_scan (step := fun s : (Int × (List T_api_Ins)) => F_patch_Asm_Done_L2 ⟨a.1, a.2⟩ s.1 s.2) a.1 (by omega) (gotG a.2) (fun acc => (acc, 0)) (fun s i => (i, s)) (fun k s => s.length ≤ k) (fun k hk s hs => ?_) (fun k hk s s' hs e => ?_) (fun s _ => ?_) [] (Nat.le_refl _)
  · show F_patch_Asm_Done_L2 ⟨a.1, a.2⟩ (k : Int) s = _
    unfold F_patch_Asm_Done_L2 F_patch_Asm_Done_J1 gotG
    rw [dct (by show (k : Int) < (a.1.length : Int); omega), show lAt (T_patch_Asm.mk a.1 a.2).cells (k : Int) = some a.1[k] from lAt_lt hk]
    simp only [cond_true, Option.bind_some]
    generalize a.1[k] = c
    cases hca : c.aimed with
    | false =>
      rw [if_pos rfl]
      simp only [Bool.not_false, cond_true]
      rw [grd_t (by simp only [List.length_cons, List.length_nil]; omega)]; rfl
    | true =>
      rw [if_neg (by decide), has_eq]
      simp only [Bool.not_true, cond_false, Option.bind_some]
      by_cases h : 1 ≤ c.label ∧ c.label ≤ (a.2.length : Int)
      · rw [dct h, if_neg (fun q => q h), show lAt (T_patch_Asm.mk a.1 a.2).labels (w64 (c.label - 1)) = some (lbl a.2 c.label) from (lab_at h).resolve_right (by omega)]
        simp only [Bool.not_true, cond_false, Option.bind_some]
        by_cases h2 : lbl a.2 c.label < 0
        · rw [dct h2, if_pos h2]; rfl
        · rw [dcf h2, if_neg h2, pt_aim, cond_false]
          simp only [Option.bind_some]
          rw [grd_t (by simp only [List.length_cons, List.length_nil]; omega)]; rfl
      · rw [dcf h, if_pos h]; rfl
  · unfold gotG at e
    split at e
    · cases e; simp; omega
    · split at e
      · cases e
      · split at e
        · cases e
        · cases e; simp; omega
  · show F_patch_Asm_Done_L2 ⟨a.1, a.2⟩ (a.1.length : Int) s = _
    unfold F_patch_Asm_Done_L2
    rw [dcf (by simp)]; rfl
def askG (t : List Ac) (acc : List T_api_Ins) (x : Ac) : List T_api_Ins ⊕ T_retraceref16_Got :=
  if x.Kind = 0 then .inl (acc ++ [x.X]) else if x.Kind = 2 then
    (if x.Label < 1 ∨ (bf t x.Label).2.1 < x.Label then .inr ⟨[], 1⟩ else if (bf t x.Label).1 < 0 then .inr ⟨[], 7⟩ else .inl (acc ++ [pt_a x.X (bf t x.Label).1])) else .inl acc
theorem rdone_eq (t : List Ac) (ht : t.length ≤ 100) : F_retraceref17_Done t = some (scan (askG t) (fun acc => ⟨acc, 0⟩) t []) := by
  unfold F_retraceref17_Done
  refine Loop_scan (step := fun s : (Int × (List T_api_Ins)) => F_retraceref17_Done_L3 t s.1 s.2) t (by omega) (askG t) (fun acc => ⟨acc, 0⟩) (fun s i => (i, s)) (fun k s => s.length ≤ k) (fun k hk s hs => ?_) (fun k hk s s' hs e => ?_) (fun s _ => ?_) [] (Nat.le_refl _)
  · show F_retraceref17_Done_L3 t (k : Int) s = _
    unfold F_retraceref17_Done_L3 F_retraceref17_Done_J1 F_retraceref17_Done_J2 askG
    rw [dct (by omega), lAt_lt hk]
    simp only [cond_true, Option.bind_some]
    generalize t[k] = x
    by_cases k0 : x.Kind = 0
    · rw [beqt k0, if_pos k0, cond_true, grd_t (by simp only [List.length_cons, List.length_nil]; omega)]; rfl
    rw [beqf k0, if_neg k0, cond_false]
    by_cases k2 : x.Kind = 2
    · rw [beqt k2, if_pos k2, cond_true, bound_eq t x.Label ht]
      simp only [Option.bind_some]
      have e0 : aAt 2 [(bf t x.Label).1, (bf t x.Label).2.1] 0 = some (bf t x.Label).1 := rfl
      have e1 : aAt 2 [(bf t x.Label).1, (bf t x.Label).2.1] 1 = some (bf t x.Label).2.1 := rfl
      rw [grd_t ⟨rfl, by simp⟩, e0, e1]
      simp only [Option.bind_some]
      by_cases h : x.Label < 1
      · rw [dct h, if_pos (.inl h)]; rfl
      rw [dcf h, cond_false]
      by_cases h2 : (bf t x.Label).2.1 < x.Label
      · rw [dct h2, if_pos (.inr h2)]; rfl
      rw [dcf h2, if_neg (fun q => q.elim h h2), cond_false]
      by_cases h3 : (bf t x.Label).1 < 0
      · rw [dct h3, if_pos h3]; rfl
      · rw [dcf h3, if_neg h3, pt_aimR, cond_false]
        simp only [Option.bind_some]
        rw [grd_t (by simp only [List.length_cons, List.length_nil]; omega)]; rfl
    · rw [beqf k2, if_neg k2]; rfl
  · unfold askG at e
    split at e
    · cases e; simp; omega
    · split at e
      · split at e
        · cases e
        · split at e
          · cases e
          · cases e; simp; omega
      · cases e; omega
  · show F_retraceref17_Done_L3 t (t.length : Int) s = _
    unfold F_retraceref17_Done_L3
    rw [dcf (by omega)]; rfl
theorem asm_cells : ∀ (t : List Ac) (s : As), (t.foldl astep s).1 = s.1 ++ (t.filter isI).map celf
  | [], s => by simp
  | x :: t, s => by
    rw [List.foldl_cons, asm_cells t, List.filter_cons]
    unfold astep
    by_cases h : isI x = true
    · rw [if_pos h, if_pos h]; simp
    · rw [if_neg h, if_neg h]
      split
      · rfl
      · split <;> rfl
theorem scans_eq (t : List Ac) : ∀ (u : List Ac) (acc : List T_api_Ins), scan (askG t) (fun acc => (⟨acc, 0⟩ : T_retraceref16_Got)) u acc =
    ⟨(scan (gotG (asm t).2) (fun acc => (acc, (0 : Int))) ((u.filter isI).map celf) acc).1, (scan (gotG (asm t).2) (fun acc => (acc, (0 : Int))) ((u.filter isI).map celf) acc).2⟩
  | [], acc => rfl
  | x :: u, acc => by
    rw [scan, List.filter_cons]
    obtain ⟨r1, r2, r3, r4⟩ := rel_all x.Label t
    unfold askG
    by_cases k0 : x.Kind = 0
    · have hi : isI x = true := by unfold isI; rw [beqt k0]; rfl
      have hg : gotG (asm t).2 acc (celf x) = .inl (acc ++ [x.X]) := by unfold gotG celf; rw [if_pos k0, if_pos rfl]
      rw [if_pos hi, List.map_cons, if_pos k0, scan, hg]
      exact scans_eq t u _
    rw [if_neg k0]
    by_cases k2 : x.Kind = 2
    · have hi : isI x = true := by unfold isI; rw [beqt k2, Bool.or_true]
      rw [if_pos hi, List.map_cons, if_pos k2, scan]
      have hg : gotG (asm t).2 acc (celf x) = if x.Label < 1 ∨ (bf t x.Label).2.1 < x.Label then .inr ([], 1) else if (bf t x.Label).1 < 0 then .inr ([], 7) else .inl (acc ++ [pt_a x.X (bf t x.Label).1]) := by
        unfold gotG celf
        rw [if_neg k0]
        simp only [Bool.true_eq_false, if_false]
        rw [← r3]
        by_cases h : 1 ≤ x.Label ∧ x.Label ≤ ((asm t).2.length : Int)
        · rw [if_neg (fun q => q h), if_neg (show ¬ (x.Label < 1 ∨ (bf t x.Label).2.1 < x.Label) by omega)]
        · rw [if_pos h, if_pos (show x.Label < 1 ∨ (bf t x.Label).2.1 < x.Label by omega)]
      rw [hg]
      by_cases h : x.Label < 1 ∨ (bf t x.Label).2.1 < x.Label
      · rw [if_pos h, if_pos h]
      · rw [if_neg h, if_neg h]
        by_cases h3 : (bf t x.Label).1 < 0
        · rw [if_pos h3, if_pos h3]
        · rw [if_neg h3, if_neg h3]
          exact scans_eq t u _
    · have hi : ¬ isI x = true := by unfold isI; rw [beqf k0, beqf k2]; decide
      rw [if_neg hi, if_neg k2]
      exact scans_eq t u _
theorem scan_len (ls : List Int) : ∀ (u : List T_patch_cell) (acc : List T_api_Ins), (scan (gotG ls) (fun acc => (acc, (0 : Int))) u acc).1.length ≤ acc.length + u.length
  | [], acc => Nat.le_refl _
  | c :: u, acc => by
    rw [scan]
    cases e : gotG ls acc c with
    | inr r =>
      unfold gotG at e
      split at e
      · cases e
      · split at e
        · cases e; exact Nat.zero_le _
        · split at e
          · cases e; exact Nat.zero_le _
          · cases e
    | inl s =>
      have h := scan_len ls u s
      have : s.length = acc.length + 1 := by
        unfold gotG at e
        split at e
        · cases e; simp
        · split at e
          · cases e
          · split at e
            · cases e
            · cases e; simp
      simp only [List.length_cons]
      omega
theorem asm_len (t : List Ac) : (asm t).1.length ≤ t.length ∧ (asm t).2.length ≤ t.length := by
  have key : ∀ (t : List Ac) (s : As), (t.foldl astep s).1.length ≤ s.1.length + t.length ∧ (t.foldl astep s).2.length ≤ s.2.length + t.length := by
    intro t
    induction t with
    | nil => intro s; exact ⟨Nat.le_refl _, Nat.le_refl _⟩
    | cons x t ih =>
      intro s
      have h := ih (astep s x)
      have h2 : (astep s x).1.length ≤ s.1.length + 1 ∧ (astep s x).2.length ≤ s.2.length + 1 := by
        unfold astep
        split
        · simp
        · split
          · simp
          · split <;> simp
      rw [List.foldl_cons, List.length_cons]
      omega
  have := key t ([], [])
  simpa [asm] using this
theorem law_pplays (l : List Ac) : F_retracelaw17_PatchPlays l = some true := by
  unfold F_retracelaw17_PatchPlays
  by_cases hl : 100 < (l.length : Int)
  · rw [dct hl, ev_retracelaw17_live]; rfl
  rw [dcf hl, cond_false]
  have ht : ∀ k, (l.take k).length ≤ 100 := fun k => by rw [List.length_take]; omega
  have e := Loop_nat (step := fun s : (Int × (List T_patch_cell) × (List Int)) => F_retracelaw17_PatchPlays_L3 l s.1 s.2.1 s.2.2) (r := true) (fun k => ((k : Int), (asm (l.take k)).1, (asm (l.take k)).2)) l.length (fun k hk => ?_) ?_
  · exact e
  · have hs : asm (l.take (k + 1)) = astep (asm (l.take k)) l[k] := by rw [take_snoc hk, asm_snoc]
    have j1 : F_retracelaw17_PatchPlays_J1 l (k : Int) (astep (asm (l.take k)) l[k]).1 (astep (asm (l.take k)) l[k]).2 = some (.inl (((k + 1 : Nat) : Int), (asm (l.take (k + 1))).1, (asm (l.take (k + 1))).2)) := by
      obtain ⟨r1, _⟩ := rel_all 0 (l.take (k + 1))
      unfold F_retracelaw17_PatchPlays_J1 F_patch_Asm_Len
      rw [w64s (by omega)]
      simp only [Option.bind_some]
      rw [grd_t ⟨Int.le_refl _, by omega, by omega⟩, lCut0, counts_eq _ (ht _), ← hs]
      have : ∀ a b : Int, aAt 2 [a, b] 0 = some a := fun _ _ => rfl
      simp only [Option.bind_some, this]
      rw [← r1]
      simp only [bne, beq_self_eq_true, Bool.not_true, cond_false]
    obtain ⟨r1, r2, _⟩ := rel_all 0 (l.take k)
    have hlen := asm_len (l.take k)
    have htk := ht k
    show F_retracelaw17_PatchPlays_L3 l (k : Int) (asm (l.take k)).1 (asm (l.take k)).2 = _
    unfold F_retracelaw17_PatchPlays_L3
    have a0 : ∀ a b : Int, aAt 2 [a, b] 0 = some a := fun _ _ => rfl
    have a1 : ∀ a b : Int, aAt 2 [a, b] 1 = some b := fun _ _ => rfl
    rw [dct (by omega), lAt_lt hk, lCut0, counts_eq _ (ht k)]
    simp only [cond_true, Option.bind_some]
    rw [grd_t ⟨Int.le_refl _, by omega, by omega⟩, grd_t ⟨rfl, by simp⟩]
    simp only [a0, a1, Option.bind_some]
    rw [← r1, ← r2]
    by_cases k0 : l[k].Kind = 0
    · rw [beqt k0, cond_true, put_eq _ _ k0 (by omega)]
      simp only [Option.bind_some, bne, beq_self_eq_true, Bool.not_true, cond_false]
      exact j1
    rw [beqf k0, cond_false]
    by_cases k1 : l[k].Kind = 1
    · rw [beqt k1, cond_true]
      have hst : astep (asm (l.take k)) l[k] = ((asm (l.take k)).1, (asm (l.take k)).2 ++ [-1]) := by
        unfold astep isI
        rw [beqf k0, beqf (show ¬ l[k].Kind = 2 by omega), if_neg (by decide), if_pos k1]
      unfold F_patch_Asm_Label
      rw [hst] at j1
      rw [grd_t (by simp only [List.length_cons, List.length_nil]; omega), w64i (by omega) (by omega)]
      simp only [Option.bind_some, List.length_append, List.length_cons, List.length_nil]
      rw [show (((asm (l.take k)).2.length + (0 + 1) : Nat) : Int) = ((asm (l.take k)).2.length : Int) + 1 by omega]
      simp only [bne, beq_self_eq_true, Bool.not_true, cond_false]
      exact j1
    rw [beqf k1, cond_false]
    by_cases k2 : l[k].Kind = 2
    · rw [beqt k2, cond_true]
      have hst : astep (asm (l.take k)) l[k] = ((asm (l.take k)).1 ++ [⟨l[k].X, l[k].Label, true⟩], (asm (l.take k)).2) := by
        unfold astep isI celf
        rw [beqf k0, beqt k2, Bool.or_true, if_pos rfl, if_neg k0]
      unfold F_patch_Asm_Go
      rw [hst] at j1
      rw [grd_t (by simp only [List.length_cons, List.length_nil]; omega)]
      simp only [Option.bind_some, List.length_append, List.length_cons, List.length_nil]
      rw [w64i (by omega) (by omega), show (((asm (l.take k)).1.length + (0 + 1) : Nat) : Int) - 1 = ((asm (l.take k)).1.length : Int) by omega]
      simp only [bne, beq_self_eq_true, Bool.not_true, cond_false]
      exact j1
    · have hi : ¬ isI l[k] = true := by unfold isI; rw [beqf k0, beqf k2]; decide
      rw [beqf k2, cond_false, bind_eq (l.take k) l[k] (ht k) hi k1 (by omega)]
      simp only [Option.bind_some]
      rw [grd_t ⟨Int.le_refl _, by omega, by omega⟩, rbind_eq _ _ (ht k)]
      simp only [Option.bind_some, bne, beq_self_eq_true, Bool.not_true, cond_false]
      exact j1
  · show F_retracelaw17_PatchPlays_L3 l (l.length : Int) (asm (l.take l.length)).1 (asm (l.take l.length)).2 = _
    have hlen := asm_len l
    have hsc := scan_len (asm l).2 (asm l).1 []
    unfold F_retracelaw17_PatchPlays_L3 F_retracelaw17_PatchPlays_J2
    rw [dcf (by omega), List.take_length, done_eq (asm l) (by omega) (by omega), rdone_eq l (by omega), scans_eq l l []]
    have hcells : (l.filter isI).map celf = (asm l).1 := by have := asm_cells l ([], []); rw [List.nil_append] at this; exact this.symm
    rw [hcells]
    simp only [cond_false, Option.bind_some]
    rw [pt_same _ _ (by simp only [List.length_nil] at hsc; omega) true (by simp), ev_retracelaw17_live]
    simp
end Go.Ab
