/- Names. -/
import Derived.Test.YtholdfpblliiiaaQD
import Derived.KernelRfl
namespace Go.Ab
set_option linter.unusedVariables false
set_option maxRecDepth 10000
def memB (s : ByteArray) (l : List ByteArray) : Bool := l.any fun x => decide (x = s)
theorem memB_iff {s : ByteArray} {l : List ByteArray} : memB s l = true ↔ s ∈ l := by
  unfold memB
  rw [List.any_eq_true]
  constructor
  · rintro ⟨x, hx, e⟩; rw [← of_decide_eq_true e]; exact hx
  · intro h; exact ⟨s, h, decide_eq_true rfl⟩
noncomputable def letB (x : Int) : Bool := (F_retraceref08_Letter x).getD false
noncomputable def digB (x : Int) : Bool := (F_retraceref08_Digit x).getD false
theorem let_s (x : Int) : F_retraceref08_Letter x = some (letB x) := some_of (ok_Letter x) _
theorem dig_s (x : Int) : F_retraceref08_Digit x = some (digB x) := some_of (ok_Digit x) _
def okEq (a b : Option Bool) : Bool := match a, b with | some x, some y => x == y | _, _ => false
theorem okEq_eq {a b : Option Bool} (h : okEq a b = true) : a = b := by
  unfold okEq at h
  split at h
  · rw [eq_of_beq h]
  · cases h
theorem letters : ((List.range 256).all fun n => okEq (F_token_letter (n : Int)) (F_retraceref08_Letter (n : Int))) = true := by kernel_rfl
theorem letter_eq {x : Int} (h0 : 0 ≤ x) (h1 : x ≤ 255) : F_token_letter x = some (letB x) := by
  obtain ⟨n, rfl⟩ := Int.eq_ofNat_of_zero_le h0
  rw [okEq_eq (List.all_eq_true.1 letters n (by simp; omega)), let_s]
theorem digit_eq (x : Int) : F_token_digit x = some (digB x) := dig_s x
theorem wordly_eq {x : Int} (h0 : 0 ≤ x) (h1 : x ≤ 255) : F_token_wordly x = some (letB x || digB x) := by
  unfold F_token_wordly F_token_wordly_J1
  rw [letter_eq h0 h1, digit_eq]
  simp only [Option.bind_some]
  cases letB x <;> rfl
theorem sAt_get {s : ByteArray} {k : Nat} (h : k < (sB s).length) : sAt s (k : Int) = some (sB s)[k] := by rw [sAt_eq, lAt_lt h]
theorem run_eq (s : ByteArray) (hs : s.size ≤ 16) : ∃ t, F_token_run s = some t ∧ ((t.toList == s.toList) = (sB s).all fun x => letB x || digB x) := by
  have e1 : F_token_run s = some (match (sB s).findIdx? (fun x => !(letB x || digB x)) with | some k => s.extract 0 k | none => s) := by
    unfold F_token_run
    refine Loop_find (R := ByteArray) (sB s) (by rw [sB_len]; omega) (fun x => !(letB x || digB x)) (fun k => s.extract 0 k) s (fun k hk => ?_) ?_
    · have hm := sB_mem (List.getElem_mem hk)
      unfold F_token_run_L1
      rw [sB_len] at hk
      rw [dct (by omega), sAt_get (by rw [sB_len]; exact hk)]
      simp only [cond_true, Option.bind_some, wordly_eq hm.1 hm.2]
      rw [grd_t ⟨by omega, by omega, by omega⟩]
      cases (letB (sB s)[k] || digB (sB s)[k]) <;> rfl
    · unfold F_token_run_L1
      rw [sB_len, dcf (by omega)]; rfl
  refine ⟨_, e1, ?_⟩
  cases e : (sB s).findIdx? (fun x => !(letB x || digB x)) with
  | none =>
    rw [List.findIdx?_eq_none_iff] at e
    show (s.toList == s.toList) = _
    rw [beq_self_eq_true]
    symm
    rw [List.all_eq_true]
    intro x hx
    have := e x hx
    revert this
    cases letB x <;> cases digB x <;> simp
  | some k =>
    rw [List.findIdx?_eq_some_iff_getElem] at e
    obtain ⟨hk, e1, _⟩ := e
    show ((s.extract 0 k).toList == s.toList) = _
    have h1 : ¬ (s.extract 0 k) = s := fun h => by
      have := congrArg ByteArray.size h
      rw [ByteArray.size_extract] at this
      rw [sB_len] at hk
      omega
    rw [eqS, decide_eq_false h1]
    symm
    rw [Bool.eq_false_iff]
    intro h
    have := List.all_eq_true.1 h _ (List.getElem_mem hk)
    rw [this] at e1; cases e1
noncomputable def wordL : List ByteArray := (F_token_words).getD []
noncomputable def wordR : List ByteArray := (F_retraceref08_Words).getD []
theorem less_ok (a b : ByteArray) : F_cmp_Less_string a b = some (sLt a b) := by
  unfold F_cmp_Less_string F_cmp_Less_string_J1 F_cmp_isNaN_string
  simp only [Option.bind_some, beq_self_eq_true, Bool.not_true, cond_false]
theorem bs_ok (s : ByteArray) (l : List ByteArray) (hl : l.length ≤ 1000) : OkP (F_slices_BinarySearch_string_string s l) (fun r => r.2 = true → s ∈ l) := by
  unfold F_slices_BinarySearch_string_string
  refine Loop_ok (fun t : Int × Int => 0 ≤ t.1 ∧ t.1 ≤ t.2 ∧ t.2 ≤ l.length) (fun t : Int × Int => (t.2 - t.1).toNat) (fun t ⟨a, b, e⟩ => ?_) _ ⟨by simp, by simp, by simp⟩
  obtain ⟨i, j⟩ := t
  replace a : 0 ≤ i := a
  replace b : i ≤ j := b
  replace e : j ≤ l.length := e
  show OkP (F_slices_BinarySearch_string_string_L2 s l i j) _
  unfold F_slices_BinarySearch_string_string_L2 F_slices_BinarySearch_string_string_J1 F_slices_isNaN_string
  have hm : w64 (Int.fdiv (wu64 (w64 (i + j))) 2) = (i + j) / 2 := by
    rw [w64i (n := i + j) (by omega) (by omega)]
    have : wu64 (i + j) = i + j := by rw [wu64, IntKind.wrap_u64]; omega
    rw [this, Int.fdiv_eq_ediv_of_nonneg _ (by omega), w64i (by omega) (by omega)]
  rw [hm]
  refine OkP.condD (fun hv => ?_) (fun hv => OkP.map ?_)
  · refine OkP.at (by omega) (by omega) fun y _ => ?_
    rw [less_ok]
    simp only [Option.bind_some]
    refine OkP.condB (fun _ => OkP.ret ?_) (fun _ => OkP.ret ?_)
    · rw [w64i (n := (i + j) / 2 + 1) (by omega) (by omega)]
      show (0 ≤ (i + j) / 2 + 1 ∧ (i + j) / 2 + 1 ≤ j ∧ j ≤ (l.length : Int)) ∧ (j - ((i + j) / 2 + 1)).toNat < (j - i).toNat
      omega
    · show (0 ≤ i ∧ i ≤ (i + j) / 2 ∧ (i + j) / 2 ≤ (l.length : Int)) ∧ ((i + j) / 2 - i).toNat < (j - i).toNat
      omega
  · refine OkP.condD (fun h2 => OkP.at a h2 fun y ey => ?_) (fun _ => OkP.ret fun h => by cases h)
    rw [eqS]
    refine OkP.condD (fun h3 => OkP.ret fun _ => h3 ▸ lAt_mem ey) (fun h3 => OkP.at a h2 fun z _ => ?_)
    simp only [Option.bind_some, beq_self_eq_true, Bool.not_true, cond_false]
    exact OkP.ret fun h => by cases h
theorem words_len : wordL.length = 18 := by kernel_rfl
theorem words_some : F_token_words = some wordL := rfl
theorem words_yes : ∀ s ∈ wordL, F_token_Word s = some true := by
  intro s hs
  have key : (wordL.all fun w => okEq (X_token_Word w) (some true)) = true := by kernel_rfl
  exact LE_token_Word _ _ (okEq_eq (List.all_eq_true.1 key s hs))
theorem word_eq (s : ByteArray) : F_token_Word s = some (memB s wordL) := by
  by_cases h : s ∈ wordL
  · rw [words_yes s h, memB_iff.2 h]
  · rw [show memB s wordL = false from Bool.eq_false_iff.2 fun e => h (memB_iff.1 e)]
    unfold F_token_Word
    rw [words_some]
    obtain ⟨r, hr, h2⟩ := bs_ok s wordL (by rw [words_len]; omega)
    simp only [Option.bind_some, hr]
    cases hq : r.2
    · rfl
    · exact absurd (h2 hq) h
theorem in_eq (s : ByteArray) (l : List ByteArray) (hl : l.length ≤ 1000) : F_retraceref08_In s l = some (memB s l) := by
  have e1 : F_retraceref08_In s l = some (match l.findIdx? (fun x => decide (x = s)) with | some k => true | none => false) := by
    unfold F_retraceref08_In
    refine Loop_find (R := Bool) l (by omega) (fun x => decide (x = s)) (fun k => true) false (fun k hk => ?_) ?_
    · unfold F_retraceref08_In_L1
      rw [dct (by omega), lAt_lt hk]
      simp only [cond_true, Option.bind_some, eqS]
      cases decide (l[k] = s) <;> rfl
    · unfold F_retraceref08_In_L1
      rw [dcf (by omega)]; rfl
  rw [e1]
  cases e : l.findIdx? (fun x => decide (x = s)) with
  | none =>
    rw [List.findIdx?_eq_none_iff] at e
    rw [show memB s l = false from Bool.eq_false_iff.2 fun h => by have := e s (memB_iff.1 h); simp at this]
  | some k =>
    rw [List.findIdx?_eq_some_iff_getElem] at e
    obtain ⟨hk, e1, _⟩ := e
    have e1 : l[k] = s := of_decide_eq_true e1
    show some true = _
    rw [memB_iff.2 (by rw [← e1]; exact List.getElem_mem hk)]
theorem bEq_ok {a b : ByteArray} (h : (a.toList == b.toList) = true) : a = b := by rw [eqS] at h; exact of_decide_eq_true h
theorem wordR_some : F_retraceref08_Words = some wordR := rfl
theorem same_words (s : ByteArray) : s ∈ wordL ↔ s ∈ wordR := by
  have k1 : (wordL.all fun w => wordR.any fun v => (v.data.toList == w.data.toList)) = true := by kernel_rfl
  have k2 : (wordR.all fun w => wordL.any fun v => (v.data.toList == w.data.toList)) = true := by kernel_rfl
  constructor
  · intro h
    obtain ⟨v, hv, e⟩ := List.any_eq_true.1 (List.all_eq_true.1 k1 s h)
    rw [← data_inj (eq_of_beq e)]; exact hv
  · intro h
    obtain ⟨v, hv, e⟩ := List.any_eq_true.1 (List.all_eq_true.1 k2 s h)
    rw [← data_inj (eq_of_beq e)]; exact hv
noncomputable def nameB (s : ByteArray) : Bool := (F_retraceref08_Name s).getD false
theorem wordR_len : wordR.length = 18 := by kernel_rfl
theorem rname_eq (s : ByteArray) (hs : s.size ≤ maxLen) : F_retraceref08_Name s = some (!((sB s).zipIdx.any fun x => !letB x.1 && ((x.2 == 0) || !digB x.1)) && (decide (1 ≤ s.size) && (decide (s.size ≤ 16) && !memB s wordR))) := by
  have hm : maxLen = 9223372036854775807 := rfl
  have hz : (sB s).zipIdx.length = s.size := by rw [List.length_zipIdx, sB_len]
  have e1 : F_retraceref08_Name s = some (match (sB s).zipIdx.findIdx? (fun x => !letB x.1 && ((x.2 == 0) || !digB x.1)) with | some k => false | none => (decide (1 ≤ s.size) && (decide (s.size ≤ 16) && !memB s wordR))) := by
    unfold F_retraceref08_Name
    refine Loop_find (R := Bool) (sB s).zipIdx (by omega) (fun x => !letB x.1 && ((x.2 == 0) || !digB x.1)) (fun k => false) _ (fun k hk => ?_) ?_
    · rw [hz] at hk
      unfold F_retraceref08_Name_L3 F_retraceref08_Name_J1
      rw [dct (by omega), sAt_get (by rw [sB_len]; exact hk)]
      simp only [cond_true, Option.bind_some, let_s, dig_s, List.getElem_zipIdx, Nat.zero_add]
      have : ((k : Int) == 0) = (k == 0) := by
        by_cases e : k = 0
        · subst e; rfl
        · rw [beqf (by omega)]; exact (beq_false_of_ne e).symm
      rw [this]
      have hk' : k < (sB s).length := by rw [sB_len]; exact hk
      cases letB ((sB s)[k]'hk') <;> cases (k == 0) <;> cases digB ((sB s)[k]'hk') <;> rfl
    · unfold F_retraceref08_Name_L3 F_retraceref08_Name_J2
      rw [hz, dcf (by omega), wordR_some]
      simp only [cond_false, Option.bind_some, in_eq s wordR (by rw [wordR_len]; omega)]
      have e1 : decide ((1 : Int) ≤ (s.size : Int)) = decide (1 ≤ s.size) := decide_eq_decide.2 (by omega)
      have e2 : decide ((s.size : Int) ≤ 16) = decide (s.size ≤ 16) := decide_eq_decide.2 (by omega)
      rw [e1, e2]
      cases decide (1 ≤ s.size) <;> cases decide (s.size ≤ 16) <;> rfl
  rw [e1]
  cases e : (sB s).zipIdx.findIdx? (fun x => !letB x.1 && ((x.2 == 0) || !digB x.1)) with
  | none =>
    rw [List.findIdx?_eq_none_iff] at e
    have : ((sB s).zipIdx.any fun x => !letB x.1 && ((x.2 == 0) || !digB x.1)) = false := by
      rw [List.any_eq_false]
      intro x hx
      rw [e x hx]; simp
    rw [this]; rfl
  | some k =>
    rw [List.findIdx?_eq_some_iff_getElem] at e
    obtain ⟨hk, e1, _⟩ := e
    have : ((sB s).zipIdx.any fun x => !letB x.1 && ((x.2 == 0) || !digB x.1)) = true := List.any_eq_true.2 ⟨_, List.getElem_mem hk, e1⟩
    rw [this]; rfl
theorem name_eq (s : ByteArray) (hs : s.size ≤ maxLen) : F_token_Name s = F_retraceref08_Name s := by
  rw [rname_eq s hs]
  unfold F_token_Name F_token_Name_J1
  rw [eqS]
  by_cases h0 : s = ⟨#[]⟩
  · rw [decide_eq_true h0]
    have : decide (1 ≤ s.size) = false := by rw [h0]; rfl
    rw [this]; simp
  rw [decide_eq_false h0]
  have h1 : 1 ≤ s.size := by
    rcases Nat.eq_zero_or_pos s.size with h | h
    · refine absurd (data_inj ?_) h0
      have : (sB s).length = 0 := by rw [sB_len]; exact h
      have h2 := List.eq_nil_of_length_eq_zero this
      unfold sB at h2
      simpa using h2
    · exact h
  rw [decide_eq_true h1]
  have e2 : decide ((s.size : Int) ≤ 16) = decide (s.size ≤ 16) := decide_eq_decide.2 (by omega)
  rw [e2]
  by_cases h2' : ¬ s.size ≤ 16
  · rw [decide_eq_false h2']; simp
  have h2 : s.size ≤ 16 := by omega
  rw [decide_eq_true h2]
  obtain ⟨t, ht, hr⟩ := run_eq s h2
  have hk : 0 < (sB s).length := by rw [sB_len]; omega
  have hm := sB_mem (List.getElem_mem hk)
  have e3 := sAt_get hk
  simp only [Bool.not_false, cond_true, show ((0 : Nat) : Int) = 0 from rfl] at e3 ⊢
  rw [e3]
  simp only [Option.bind_some, letter_eq hm.1 hm.2, ht, hr, word_eq]
  have e4 : memB s wordL = memB s wordR := by rw [Bool.eq_iff_iff, memB_iff, memB_iff]; exact same_words s
  rw [e4]
  have key : (letB (sB s)[0] && (sB s).all fun x => letB x || digB x) = !((sB s).zipIdx.any fun x => !letB x.1 && ((x.2 == 0) || !digB x.1)) := by
    rw [Bool.eq_iff_iff]
    simp only [Bool.and_eq_true, List.all_eq_true, Bool.or_eq_true, Bool.not_eq_true', List.any_eq_false]
    constructor
    · rintro ⟨a, b⟩ x hx
      obtain ⟨i, hi, e⟩ := List.getElem_of_mem hx
      rw [List.getElem_zipIdx] at e
      subst e
      rw [List.length_zipIdx] at hi
      have := b _ (List.getElem_mem hi)
      rcases Nat.eq_zero_or_pos i with h | h
      · subst h; simp [a]
      · have : (0 + i == 0) = false := beq_false_of_ne (by omega)
        simp only [this]
        grind
    · intro hall
      have hz : ∀ (i : Nat) (hi : i < (sB s).length), ((sB s)[i], i) ∈ (sB s).zipIdx := fun i hi => by
        have := List.getElem_mem (l := (sB s).zipIdx) (n := i) (by rw [List.length_zipIdx]; exact hi)
        rw [List.getElem_zipIdx, Nat.zero_add] at this
        exact this
      refine ⟨?_, fun x hx => ?_⟩
      · have := hall _ (hz 0 hk)
        simpa using this
      · obtain ⟨i, hi, rfl⟩ := List.getElem_of_mem hx
        have := hall _ (hz i hi)
        grind
  rw [← key]
  cases letB (sB s)[0] <;> cases ((sB s).all fun x => letB x || digB x) <;> rfl
end Go.Ab
