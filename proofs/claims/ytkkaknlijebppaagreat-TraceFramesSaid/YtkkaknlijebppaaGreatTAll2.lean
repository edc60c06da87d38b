/- Parts of the proof, one behind the other. -/
import Derived.Test.YtkkaknlijebppaaGreatTAll1
section
/- TraceGets and TraceFrames. -/
namespace Go.Ab
set_option linter.unusedVariables false
set_option maxRecDepth 10000
theorem selfT {t : Tr} {n : Nat} (h : TI t n) (hn : n ≤ 20000) : F_retraceref32_Same t t = some true := by
  have he := h.e
  have hm := h.m
  unfold F_retraceref32_Same F_retraceref32_Same_J1
  rw [sameE_eq t.Events t.Events (by omega) true (by simp)]
  simp only [bne_self_eq_false, cond_false, Option.bind_some, Bool.not_true]
  refine Loop_nat (step := fun s : Int => F_retraceref32_Same_L3 t t s) (fun k => (k : Int)) t.Marks.length (fun k hk => ?_) ?_
  · show F_retraceref32_Same_L3 t t (k : Int) = _
    unfold F_retraceref32_Same_L3 F_retraceref32_Same_J2
    rw [dct (by omega), lAt_lt hk]
    simp only [cond_true, Option.bind_some, bne_self_eq_false, cond_false]
    rw [sameSt _ (h.ok _ (List.getElem_mem hk)).b]
    simp only [Option.bind_some, Bool.not_true, cond_false]
    rw [w64s (by omega)]
  · show F_retraceref32_Same_L3 t t (t.Marks.length : Int) = _
    unfold F_retraceref32_Same_L3
    rw [dcf (by omega)]; rfl
theorem getT_TI {s : ByteArray} (hs : s.size ≤ 18000) {l : List Fr} (hc : Chain s l) (hd : ∀ f ∈ l, f.Data.size ≤ 2600) : TI (getT s l).1 18000 := by
  have hle := hc.le
  have hsum := posL_sum l
  unfold getT
  by_cases h1 : endE s l = 0
  · rw [if_neg (fun x => x h1)]
    by_cases h2 : (foldE noT l).2 = 0
    · rw [if_neg (fun x => x h2)]
      split
      · exact noT_TI _
      · split
        · exact (foldE_TI l noT 0 false (noT_TI 0) (fun h => by cases h) hd h2).1.up (by omega)
        · exact noT_TI _
    · rw [if_pos h2]; exact noT_TI _
  · rw [if_pos h1]; exact noT_TI _
theorem cat_end (l : List Fr) : (nextV (catF l) (posL l l.length : Int)).2.2 = 2 := by
  have hz := catF_size' l
  unfold nextV
  rw [if_neg (by omega), if_pos (by omega)]
theorem cat_chain (l : List Fr) (hk : okF l) : Chain (catF l) l := by
  have h := chain_cat l hk ⟨#[]⟩
  have e : catF l ++ (⟨#[]⟩ : ByteArray) = catF l := by
    apply sB_inj; rw [sB_app, sB_nil, List.append_nil]
  rw [e] at h; exact h
/-- the chapter's example -/
def tEx : Tr := ⟨5, 9, 2, [], []⟩
theorem tEx_PT : PTr tEx := ⟨Nat.zero_le _, (fun x hx => by cases hx), Nat.zero_le _, (fun m hm => by cases hm), by show (0 : Int) ≤ 5; decide, by show (5 : Int) ≤ _; decide⟩
theorem tEx_is : isB tEx = true := by kernel_rfl
theorem tEx_fr : framesV tEx = [⟨1, ⟨#[5, 9, 2]⟩⟩, ⟨4, ⟨#[0, 0]⟩⟩] := by kernel_rfl
theorem tEx_fold : foldE noT [⟨1, ⟨#[5, 9, 2]⟩⟩, ⟨4, ⟨#[0, 0]⟩⟩] = (tEx, 0) := by kernel_rfl
theorem live32 : F_retracelaw32_live = some true := by
  have hput := F_tput tEx_PT tEx_is
  have hk : okF (framesV tEx) := by
    intro f hf
    obtain ⟨a, b, c⟩ := (framesV_good tEx_PT).2 f hf
    exact ⟨a, b, by omega⟩
  have hc := cat_chain _ hk
  have he := cat_end (framesV tEx)
  have hd : ∀ f ∈ framesV tEx, f.Data.size ≤ 2600 := by
    intro f hf
    rw [tEx_fr] at hf
    rcases List.mem_cons.1 hf with q | q
    · rw [q]; show 3 ≤ 2600; decide
    · rw [List.mem_singleton.1 q]; show 2 ≤ 2600; decide
  have hl : (framesV tEx).length = 2 := by rw [tEx_fr]; rfl
  have hz := catF_size' (framesV tEx)
  have hzz : posL (framesV tEx) (framesV tEx).length ≤ 18000 := by
    rw [tEx_fr]; decide +kernel
  have hg := (F_tget (s := catF (framesV tEx)) (by omega) hc (by rw [he]; decide) hd).1
  have hall := F_allR (catF (framesV tEx)) (by omega) _ hc (by rw [he]; decide)
  have hgt : getT (catF (framesV tEx)) (framesV tEx) = (tEx, 0) := by
    unfold getT
    have e1 : endE (catF (framesV tEx)) (framesV tEx) = 0 := by unfold endE; rw [if_pos hz.symm]
    rw [e1, if_neg (by simp)]
    have e2 : foldE noT (framesV tEx) = (tEx, 0) := by rw [tEx_fr]; exact tEx_fold
    rw [e2]
    simp only
    rw [if_neg (by simp)]
    have e3 : lastK (framesV tEx) = true := by rw [tEx_fr]; rfl
    rw [e3, if_neg (by simp)]
    first | exact if_pos trivial | exact if_pos rfl
  rw [hgt] at hg
  unfold F_retracelaw32_live F_retracelaw32_live_J1
  have hput : F_trace_Put ⟨5, 9, 2, [], []⟩ = some (catF (framesV tEx), 0) := hput
  rw [hput]
  simp only [Option.bind_some]
  rw [hg]
  simp only [Option.bind_some, beq_self_eq_true, cond_true]
  have hs : F_trace_Same tEx ⟨5, 9, 2, [], []⟩ = some true := by
    unfold F_trace_Same F_trace_Same_J1
    have e1 := eq_nilE ([] : List Ev) (by simp)
    have e2 := eq_nilM ([] : List Mk) (by simp)
    show cond true (cond true (cond true ((F_slices_Equal_retrace_api_Event_retrace_api_Event [] []).bind _) _) _) _ = _
    simp only [cond_true]
    rw [e1]
    simp only [Option.bind_some]
    show cond true ((F_slices_EqualFunc_retrace_api_Mark_retrace_api_Mark_retrace_api_Mark_retrace_api_Mark [] []).bind _) _ = _
    rw [cond_true, e2]; rfl
  rw [hs, hall]
  simp only [Option.bind_some, cond_true]
  rw [hl]
  have hc1 : F_trace_Check ⟨5, 9, 2, [], []⟩ = some 0 := by
    have := F_tcheck tEx (Nat.zero_le _) (Nat.zero_le _)
    rw [tEx_is] at this; exact this
  have hc2 : F_trace_Check ⟨0, 0, 0, [], []⟩ = some 1 := by
    have := F_tcheck noT (Nat.zero_le _) (Nat.zero_le _)
    have hb : isB noT = false := by kernel_rfl
    rw [hb] at this; exact this
  rw [hc1, hc2]; rfl
end Go.Ab
end
section
/- TraceFrames. -/
namespace Go.Ab
set_option linter.unusedVariables false
set_option maxRecDepth 20000
theorem F_joinF2 (l : List T_api_Frame) (hl : l.length ≤ 60000) (hk : ∀ f ∈ l, 0 ≤ f.Kind ∧ f.Kind ≤ 255 ∧ f.Data.size ≤ 850000) : F_retraceref04_Joined_v2 l = some (catF l, (List.range (l.length + 1)).map fun k => (posL l k : Int)) := by
  have h := F_joinF l hl hk
  have e : (fun s : (ByteArray × Int × (List Int)) => F_retraceref04_Joined_v2_L1 l s.1 s.2.1 s.2.2) = (fun s : (ByteArray × Int × (List Int)) => F_retraceref04_Joined_L1 l s.1 s.2.1 s.2.2) := rfl
  unfold F_retraceref04_Joined at h
  unfold F_retraceref04_Joined_v2
  rw [e]; exact h
theorem posL_bound (l : List Fr) (n : Nat) (hk : ∀ f ∈ l, f.Data.size ≤ n) : ∀ k, k ≤ l.length → posL l k ≤ k * (n + 15) := by
  intro k
  induction k with
  | zero => intro _; simp [posL_zero]
  | succ k ih =>
    intro h
    have hg := List.getElem?_eq_getElem (show k < l.length by omega)
    have h1 := hk _ (List.mem_of_getElem? hg)
    have h2 := (numL_len ((l[k]'(by omega)).Data.size : Int)).1
    have h3 := ih (by omega)
    rw [posL_succ hg, frB_size, Nat.succ_mul]; omega
theorem frames_end (l : List Fr) (hl : l.length ≤ 20) (hk : ∀ f ∈ l, 0 ≤ f.Kind ∧ f.Kind ≤ 255) (hd : ∀ f ∈ l, f.Data.size ≤ 800) : F_retracelaw32_TraceFrames_L3 l (l.length : Int) = some (.inr true) := by
  have hok : okF l := fun f hf => ⟨(hk f hf).1, (hk f hf).2, by have := hd f hf; omega⟩
  have hb := posL_bound l 800 hd l.length (Nat.le_refl _)
  have hz := catF_size' l
  have hs : (catF l).size ≤ 18000 := by
    have : l.length * (800 + 15) ≤ 20 * 815 := Nat.mul_le_mul_right _ hl
    omega
  have hc := cat_chain l hok
  have hd' : ∀ f ∈ l, f.Data.size ≤ 2600 := fun f hf => by have := hd f hf; omega
  obtain ⟨g1, g2⟩ := F_tget hs hc (by rw [cat_end]; decide) hd'
  unfold F_retracelaw32_TraceFrames_L3 F_retracelaw32_TraceFrames_J2
  rw [dcf (by omega), cond_false, F_joinF2 l (by omega) hok]
  simp only [Option.bind_some]
  rw [g1, g2]
  simp only [Option.bind_some]
  rw [selfT (getT_TI hs hc hd') (by omega)]
  simp only [Option.bind_some, beq_self_eq_true, cond_true]
  rw [live32]; rfl
theorem law_tframes (l : List Fr) : F_retracelaw32_TraceFrames l = some true := by
  unfold F_retracelaw32_TraceFrames
  have jt : F_retracelaw32_TraceFrames_J1 l true = some true := by
    unfold F_retracelaw32_TraceFrames_J1
    rw [cond_true, live32]; rfl
  by_cases hl : 20 < (l.length : Int)
  · rw [dct hl, cond_true]; exact jt
  rw [dcf hl, cond_false]
  obtain ⟨r, hr, hr2⟩ := F_rightF l (by omega)
  rw [hr]
  simp only [Option.bind_some]
  cases r with
  | false => exact jt
  | true =>
    have hk := hr2 rfl
    unfold F_retracelaw32_TraceFrames_J1
    rw [Bool.not_true, cond_false]
    have := Loop_ex (step := fun s : Int => F_retracelaw32_TraceFrames_L3 l s) (fun s => ∃ k : Nat, s = (k : Int) ∧ k ≤ l.length ∧ ∀ f ∈ l.take k, f.Data.size ≤ 800) (fun s => l.length - s.toNat) (fun b => b = true) (fun s hs => ?_) 0 ⟨0, rfl, Nat.zero_le _, by simp⟩
    · obtain ⟨r, e, rfl⟩ := this
      exact e
    · obtain ⟨k, rfl, hkl, hall⟩ := hs
      show (∃ s', F_retracelaw32_TraceFrames_L3 l (k : Int) = _ ∧ _) ∨ ∃ r, F_retracelaw32_TraceFrames_L3 l (k : Int) = _ ∧ _
      by_cases h1 : k < l.length
      · unfold F_retracelaw32_TraceFrames_L3
        rw [dct (by omega), cond_true, lAt_lt h1]
        simp only [Option.bind_some]
        by_cases h2 : 800 < ((l[k]).Data.size : Int)
        · right
          rw [dct h2, cond_true, live32]
          exact ⟨true, rfl, rfl⟩
        · left
          rw [dcf h2, cond_false, w64s (by omega)]
          refine ⟨_, rfl, ⟨k + 1, rfl, by omega, fun f hf => ?_⟩, by simp; omega⟩
          rw [take_snoc h1] at hf
          rcases List.mem_append.1 hf with q | q
          · exact hall f q
          · rw [List.mem_singleton.1 q]; omega
      · right
        have : k = l.length := by omega
        subst this
        rw [List.take_length] at hall
        exact ⟨true, frames_end l (by omega) hk hall, rfl⟩
end Go.Ab
end
