/- Parts of the proof, one behind the other. -/
import Derived.Test.YtkkaknlijebppaaGreatTAll1
section
/- TraceGets and TraceFrames. -/
namespace Go.Ab
set_option linter.unusedVariables false
set_option maxRecDepth 10000
theorem selfT {t : Tr} {n : Nat} (h : TI t n) (hn : n ≤ 20000) : F_retraceref32_Same t t = some true := by
  have he := h.e
  have hm := h.m
  unfold F_retraceref32_Same F_retraceref32_Same_J1
  rw [sameE_eq t.Events t.Events (by omega) true (by simp)]
  simp only [bne_self_eq_false, cond_false, Option.bind_some, Bool.not_true]
  refine Loop_nat (step := fun s : Int => F_retraceref32_Same_L3 t t s) (fun k => (k : Int)) t.Marks.length (fun k hk => ?_) ?_
  · show F_retraceref32_Same_L3 t t (k : Int) = _
    unfold F_retraceref32_Same_L3 F_retraceref32_Same_J2
    rw [dct (by omega), lAt_lt hk]
    simp only [cond_true, Option.bind_some, bne_self_eq_false, cond_false]
    rw [sameSt _ (h.ok _ (List.getElem_mem hk)).b]
    simp only [Option.bind_some, Bool.not_true, cond_false]
    rw [w64s (by omega)]
  · show F_retraceref32_Same_L3 t t (t.Marks.length : Int) = _
    unfold F_retraceref32_Same_L3
    rw [dcf (by omega)]; rfl
theorem getT_TI {s : ByteArray} (hs : s.size ≤ 18000) {l : List Fr} (hc : Chain s l) (hd : ∀ f ∈ l, f.Data.size ≤ 2600) : TI (getT s l).1 18000 := by
  have hle := hc.le
  have hsum := posL_sum l
  unfold getT
  by_cases h1 : endE s l = 0
  · rw [if_neg (fun x => x h1)]
    by_cases h2 : (foldE noT l).2 = 0
    · rw [if_neg (fun x => x h2)]
      split
      · exact noT_TI _
      · split
        · exact (foldE_TI l noT 0 false (noT_TI 0) (fun h => by cases h) hd h2).1.up (by omega)
        · exact noT_TI _
    · rw [if_pos h2]; exact noT_TI _
  · rw [if_pos h1]; exact noT_TI _
theorem getT_0 {s : ByteArray} (hs : s.size ≤ 18000) {l : List Fr} (hc : Chain s l) (hd : ∀ f ∈ l, f.Data.size ≤ 2600) (h : (getT s l).2 = 0) : PTr (getT s l).1 ∧ isB (getT s l).1 = true ∧ catF (framesV (getT s l).1) = s := by
  have hle := hc.le
  have hsum := posL_sum l
  unfold getT at h ⊢
  by_cases h1 : endE s l = 0
  · rw [if_neg (fun x => x h1)] at h ⊢
    by_cases h2 : (foldE noT l).2 = 0
    · rw [if_neg (fun x => x h2)] at h ⊢
      by_cases h3 : lastK l = false
      · rw [if_pos h3] at h; cases h
      · rw [if_neg h3] at h ⊢
        have hne : l ≠ [] := by intro e; apply h3; rw [e]; rfl
        obtain ⟨a, b⟩ := foldE_TI l noT 0 false (noT_TI 0) (fun h => by cases h) hd h2
        by_cases h4 : catF (framesV (foldE noT l).1) = s
        · rw [if_pos h4]
          exact ⟨a.pt (by omega), b (.inr hne), h4⟩
        · rw [if_neg h4] at h; cases h
    · rw [if_pos h2] at h; exact absurd h h2
  · rw [if_pos h1] at h; exact absurd h h1
theorem cat_end (l : List Fr) : (nextV (catF l) (posL l l.length : Int)).2.2 = 2 := by
  have hz := catF_size' l
  unfold nextV
  rw [if_neg (by omega), if_pos (by omega)]
theorem cat_chain (l : List Fr) (hk : okF l) : Chain (catF l) l := by
  have h := chain_cat l hk ⟨#[]⟩
  have e : catF l ++ (⟨#[]⟩ : ByteArray) = catF l := by
    apply sB_inj; rw [sB_app, sB_nil, List.append_nil]
  rw [e] at h; exact h
/-- the chapter's example -/
def tEx : Tr := ⟨5, 9, 2, [], []⟩
theorem tEx_PT : PTr tEx := ⟨Nat.zero_le _, (fun x hx => by cases hx), Nat.zero_le _, (fun m hm => by cases hm), by show (0 : Int) ≤ 5; decide, by show (5 : Int) ≤ _; decide⟩
theorem tEx_is : isB tEx = true := by kernel_rfl
theorem tEx_fr : framesV tEx = [⟨1, ⟨#[5, 9, 2]⟩⟩, ⟨4, ⟨#[0, 0]⟩⟩] := by kernel_rfl
theorem tEx_fold : foldE noT [⟨1, ⟨#[5, 9, 2]⟩⟩, ⟨4, ⟨#[0, 0]⟩⟩] = (tEx, 0) := by kernel_rfl
theorem live32 : F_retracelaw32_live = some true := by
  have hput := F_tput tEx_PT tEx_is
  have hk : okF (framesV tEx) := by
    intro f hf
    obtain ⟨a, b, c⟩ := (framesV_good tEx_PT).2 f hf
    exact ⟨a, b, by omega⟩
  have hc := cat_chain _ hk
  have he := cat_end (framesV tEx)
  have hd : ∀ f ∈ framesV tEx, f.Data.size ≤ 2600 := by
    intro f hf
    rw [tEx_fr] at hf
    rcases List.mem_cons.1 hf with q | q
    · rw [q]; show 3 ≤ 2600; decide
    · rw [List.mem_singleton.1 q]; show 2 ≤ 2600; decide
  have hl : (framesV tEx).length = 2 := by rw [tEx_fr]; rfl
  have hz := catF_size' (framesV tEx)
  have hzz : posL (framesV tEx) (framesV tEx).length ≤ 18000 := by
    rw [tEx_fr]; decide +kernel
  have hg := (F_tget (s := catF (framesV tEx)) (by omega) hc (by rw [he]; decide) hd).1
  have hall := F_allR (catF (framesV tEx)) (by omega) _ hc (by rw [he]; decide)
  have hgt : getT (catF (framesV tEx)) (framesV tEx) = (tEx, 0) := by
    unfold getT
    have e1 : endE (catF (framesV tEx)) (framesV tEx) = 0 := by unfold endE; rw [if_pos hz.symm]
    rw [e1, if_neg (by simp)]
    have e2 : foldE noT (framesV tEx) = (tEx, 0) := by rw [tEx_fr]; exact tEx_fold
    rw [e2]
    simp only
    rw [if_neg (by simp)]
    have e3 : lastK (framesV tEx) = true := by rw [tEx_fr]; rfl
    rw [e3, if_neg (by simp)]
    first | exact if_pos trivial | exact if_pos rfl
  rw [hgt] at hg
  unfold F_retracelaw32_live F_retracelaw32_live_J1
  have hput : F_trace_Put ⟨5, 9, 2, [], []⟩ = some (catF (framesV tEx), 0) := hput
  rw [hput]
  simp only [Option.bind_some]
  rw [hg]
  simp only [Option.bind_some, beq_self_eq_true, cond_true]
  have hs : F_trace_Same tEx ⟨5, 9, 2, [], []⟩ = some true := by
    unfold F_trace_Same F_trace_Same_J1
    have e1 := eq_nilE ([] : List Ev) (by simp)
    have e2 := eq_nilM ([] : List Mk) (by simp)
    show cond true (cond true (cond true ((F_slices_Equal_retrace_api_Event_retrace_api_Event [] []).bind _) _) _) _ = _
    simp only [cond_true]
    rw [e1]
    simp only [Option.bind_some]
    show cond true ((F_slices_EqualFunc_retrace_api_Mark_retrace_api_Mark_retrace_api_Mark_retrace_api_Mark [] []).bind _) _ = _
    rw [cond_true, e2]; rfl
  rw [hs, hall]
  simp only [Option.bind_some, cond_true]
  rw [hl]
  have hc1 : F_trace_Check ⟨5, 9, 2, [], []⟩ = some 0 := by
    have := F_tcheck tEx (Nat.zero_le _) (Nat.zero_le _)
    rw [tEx_is] at this; exact this
  have hc2 : F_trace_Check ⟨0, 0, 0, [], []⟩ = some 1 := by
    have := F_tcheck noT (Nat.zero_le _) (Nat.zero_le _)
    have hb : isB noT = false := by kernel_rfl
    rw [hb] at this; exact this
  rw [hc1, hc2]; rfl
theorem law_tgets (s : ByteArray) : F_retracelaw32_TraceGets s = some true := by
  unfold F_retracelaw32_TraceGets
  by_cases hs : 2500 < (s.size : Int)
  · rw [dct hs, live32]; rfl
  rw [dcf hs, cond_false]
  obtain ⟨l, hc, he⟩ := chain_ex s
  have hd : ∀ f ∈ l, f.Data.size ≤ 2600 := fun f hf => by have := chain_small hc hf; omega
  obtain ⟨g1, g2⟩ := F_tget (by omega) hc he hd
  rw [g1, g2]
  simp only [Option.bind_some]
  rw [selfT (getT_TI (by omega) hc hd) (by omega)]
  simp only [Option.bind_some, Bool.not_true, cond_false, bne_self_eq_false]
  unfold F_retracelaw32_TraceGets_J1 F_retracelaw32_TraceGets_J2
  rw [cond_false]
  by_cases h0 : (getT s l).2 = 0
  · have e0 : ((getT s l).2 != 0) = false := by simp [h0]
    obtain ⟨a, b, c⟩ := getT_0 (by omega) hc hd h0
    rw [e0, cond_false, F_tput a b]
    simp only [Option.bind_some]
    rw [c]
    simp only [beq_self_eq_true, cond_true]
    rw [live32]; rfl
  · have e0 : ((getT s l).2 != 0) = true := by simpa using h0
    rw [e0, cond_true, live32]; rfl
end Go.Ab
end
