/- FrameAll and FrameCuts, plainly. -/
import Derived.Test.YtdcgabaobopjpaaPFrame5
namespace Go.Ab
set_option linter.unusedVariables false

theorem chain_small {s : ByteArray} {l : List T_api_Frame} (h : Chain s l) {f : T_api_Frame} (hf : f ∈ l) : f.Data.size ≤ s.size := by
  obtain ⟨k, hk⟩ := List.getElem?_of_mem hf
  obtain ⟨b, _, _, _, _, _, hle, _⟩ := next_ok (h k f hk)
  rw [frB_size] at hle; omega
theorem places_at (l : List T_api_Frame) {k : Nat} (h : k ≤ l.length) : lAt ((List.range (l.length + 1)).map fun k => (posL l k : Int)) (k : Int) = some (posL l k : Int) := by
  rw [lAtn, List.getElem?_map, List.getElem?_range (by omega)]; rfl

theorem each_ok (s : ByteArray) (hs : s.size ≤ 3000) (l : List T_api_Frame) (h : Chain s l) (he : (nextV s (posL l l.length : Int)).2.2 ≠ 0) (stop e1 e2 : Int) :
    ∃ r, F_frame_Each_1_v2 stop false ⟨l, e1, e2⟩ 0 s ((List.range (l.length + 1)).map fun k => (posL l k : Int)) = some r ∧ ((r = .inl (l.length : Int)) ∨ r = .inr (.inr stop)) := by
  have hle := h.le
  have hlen := posL_len l l.length (Nat.le_refl _)
  unfold F_frame_Each_1_v2
  have step : ∀ k, k < l.length → F_frame_Each_1_v2_L4 stop false ⟨l, e1, e2⟩ s ((List.range (l.length + 1)).map fun k => (posL l k : Int)) (posL l k : Int) (k : Int) = if ((k + 1 : Nat) : Int) = stop then some (.inr (.inr (.inr stop))) else some (.inl ((posL l (k + 1) : Int), ((k + 1 : Nat) : Int))) := by
    intro k hk
    have hg := List.getElem?_eq_getElem hk
    have hn := h k _ hg
    unfold F_frame_Each_1_v2_L4
    rw [F_next s _ (by omega), hn]
    simp only [Option.bind_some, bne_self_eq_false, cond_false]
    unfold F_R_retracelaw04_FrameAll_0
    rw [dcf (by show ¬ ((l.length : Int) ≤ (k : Int)); omega), cond_false, lAt_lt hk, places_at l (by omega)]
    simp only [Option.bind_some]
    rw [(fr_eq _ _).2 rfl]
    simp only [Bool.not_true, cond_false, bne_self_eq_false]
    unfold F_R_retracelaw04_FrameAll_0_J1
    rw [cond_false, w64s (by omega)]
    by_cases hst : ((k + 1 : Nat) : Int) = stop
    · rw [beqt hst, cond_true, if_pos hst, hst]; rfl
    · rw [beqf hst, cond_false, if_neg hst]; rfl
  by_cases hs' : ∃ j, j < l.length ∧ ((j + 1 : Nat) : Int) = stop
  · obtain ⟨j, hj, hst⟩ := hs'
    refine ⟨_, ?_, .inr rfl⟩
    have := Loop_nat (step := fun q : (Int × Int) => F_frame_Each_1_v2_L4 stop false ⟨l, e1, e2⟩ s ((List.range (l.length + 1)).map fun k => (posL l k : Int)) q.1 q.2) (fun k => ((posL l k : Int), (k : Int))) j (r := .inr (.inr stop)) (fun k hk => ?_) ?_
    · rw [posL_zero] at this; exact this
    · show F_frame_Each_1_v2_L4 _ _ _ _ _ (posL l k : Int) (k : Int) = _
      rw [step k (by omega), if_neg (by omega)]
    · show F_frame_Each_1_v2_L4 _ _ _ _ _ (posL l j : Int) (j : Int) = _
      rw [step j hj, if_pos hst]
  · refine ⟨_, ?_, .inl rfl⟩
    have := Loop_nat (step := fun q : (Int × Int) => F_frame_Each_1_v2_L4 stop false ⟨l, e1, e2⟩ s ((List.range (l.length + 1)).map fun k => (posL l k : Int)) q.1 q.2) (fun k => ((posL l k : Int), (k : Int))) l.length (r := .inl (l.length : Int)) (fun k hk => ?_) ?_
    · rw [posL_zero] at this; exact this
    · show F_frame_Each_1_v2_L4 _ _ _ _ _ (posL l k : Int) (k : Int) = _
      rw [step k hk, if_neg (fun hc => hs' ⟨k, hk, hc⟩)]
    · show F_frame_Each_1_v2_L4 _ _ _ _ _ (posL l l.length : Int) (l.length : Int) = _
      unfold F_frame_Each_1_v2_L4
      rw [F_next s _ (by omega)]
      simp only [Option.bind_some]
      rw [show ((nextV s (posL l l.length : Int)).2.2 != 0) = true by simpa using he, cond_true]
      rfl

theorem law_fall (s : ByteArray) (stop : Int) : F_retracelaw04_FrameAll s stop = some true := by
  have hbig : F_retracelaw04_FrameAll_J1 s stop true = some true := by
    unfold F_retracelaw04_FrameAll_J1; rw [cond_true, ev_retracelaw04_live]; rfl
  unfold F_retracelaw04_FrameAll
  by_cases h0 : 3000 < (s.size : Int)
  · rw [dct h0, cond_true, hbig]
  rw [dcf h0, cond_false, ev_retracelaw04_live]
  simp only [Option.bind_some, Bool.not_true]
  obtain ⟨l, hc, he⟩ := chain_ex s
  have hle := hc.le
  have hlen := posL_len l l.length (Nat.le_refl _)
  unfold F_retracelaw04_FrameAll_J1
  rw [cond_false, F_allF s (by omega) l hc he, F_allR s (by omega) l hc he]
  simp only [Option.bind_some]
  rw [F_sameF l l (by omega) true (by simp)]
  simp only [Option.bind_some, Bool.not_true, cond_false, bne_self_eq_false]
  unfold F_retracelaw04_FrameAll_J2
  rw [cond_false]
  rw [F_joinF l (by omega) (fun f hf => ⟨(hc.ok hf).1, (hc.ok hf).2.1, by have := chain_small hc hf; omega⟩)]
  simp only [Option.bind_some, F_frame_Each]
  obtain ⟨r, hr, hq⟩ := each_ok s (by omega) l hc he stop (posL l l.length : Int) (endE s l)
  rw [hr]
  simp only [Option.bind_some]
  rcases hq with rfl | rfl
  · simp [F_retracelaw04_FrameAll_J3, F_retracelaw04_FrameAll_J4, ev_retracelaw04_live]
  · simp only [Sum.elim_inr, F_retracelaw04_FrameAll_J3, F_retracelaw04_FrameAll_J4, ev_retracelaw04_live, Option.bind_some, beq_self_eq_true, cond_true]
    cases (stop == (l.length : Int)) <;> rfl
end Go.Ab
