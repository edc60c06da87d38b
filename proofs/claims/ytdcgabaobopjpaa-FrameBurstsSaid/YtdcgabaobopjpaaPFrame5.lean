/- Frames one behind the other. -/
import Derived.Test.YtdcgabaobopjpaaPFrame4
namespace Go.Ab
set_option linter.unusedVariables false

def posL (l : List T_api_Frame) (k : Nat) : Nat := ((l.take k).map (fun f => (frB f).size)).sum
theorem posL_zero (l : List T_api_Frame) : posL l 0 = 0 := by simp [posL]
theorem posL_succ {l : List T_api_Frame} {k : Nat} {f : T_api_Frame} (h : l[k]? = some f) : posL l (k + 1) = posL l k + (frB f).size := by
  have hk := lt_of_getL h
  have : l[k] = f := by rw [List.getElem?_eq_getElem hk] at h; exact Option.some.inj h
  unfold posL
  rw [take_snoc hk, List.map_append, List.sum_append, this]; simp
theorem posL_app {l m : List T_api_Frame} {k : Nat} (h : k ≤ l.length) : posL (l ++ m) k = posL l k := by
  unfold posL; rw [List.take_append_of_le_length h]
theorem posL_mono {l : List T_api_Frame} {j k : Nat} (h : j ≤ k) : posL l j ≤ posL l k := by
  induction k with
  | zero => rw [show j = 0 by omega]; omega
  | succ k ih =>
    by_cases hj : j = k + 1
    · rw [hj]; omega
    · have := ih (by omega)
      cases hq : l[k]? with
      | some f => rw [posL_succ hq]; omega
      | none =>
        have hl : l.length ≤ k := List.getElem?_eq_none_iff.1 hq
        have e : posL l (k + 1) = posL l k := by unfold posL; rw [List.take_of_length_le hl, List.take_of_length_le (by omega)]
        omega
theorem frB_size (f : T_api_Frame) : (frB f).size = 1 + (numL f.Data.size).length + f.Data.size + 4 := by unfold frB; rw [size_app, hdr_size, leN_size]
theorem posL_len (l : List T_api_Frame) : ∀ k, k ≤ l.length → k ≤ posL l k
  | 0, _ => Nat.zero_le _
  | k + 1, h => by
    have := posL_len l k (by omega)
    rw [posL_succ (List.getElem?_eq_getElem (show k < l.length by omega)), frB_size]; omega

def Chain (s : ByteArray) (l : List T_api_Frame) : Prop := ∀ (k : Nat) (f : T_api_Frame), l[k]? = some f → nextV s (posL l k : Int) = (f, (posL l (k + 1) : Int), 0)
theorem Chain.le {s : ByteArray} {l : List T_api_Frame} (h : Chain s l) : posL l l.length ≤ s.size := by
  cases hl : l.length with
  | zero => rw [posL_zero]; omega
  | succ n =>
    have hk : l[n]? = some (l[n]'(by omega)) := List.getElem?_eq_getElem (by omega)
    obtain ⟨b, hb, _, _, _, he, hle, _⟩ := next_ok (h n _ hk)
    rw [posL_succ hk]; omega
theorem Chain.ok {s : ByteArray} {l : List T_api_Frame} (h : Chain s l) {f : T_api_Frame} (hf : f ∈ l) : 0 ≤ f.Kind ∧ f.Kind ≤ 255 ∧ f.Data.size ≤ 1048576 := by
  obtain ⟨k, hk⟩ := List.getElem?_of_mem hf
  obtain ⟨b, _, h0, h1, h2, _⟩ := next_ok (h k f hk)
  exact ⟨h0, h1, h2⟩
theorem chain_snoc {s : ByteArray} {l : List T_api_Frame} (h : Chain s l) {f : T_api_Frame} {e : Int} (hn : nextV s (posL l l.length : Int) = (f, e, 0)) : Chain s (l ++ [f]) := by
  intro k g hg
  rcases Nat.lt_or_ge k l.length with hk | hk
  · rw [List.getElem?_append_left hk] at hg
    rw [posL_app (by omega), posL_app (by omega)]; exact h k g hg
  · have hk' : k = l.length := by
      have := lt_of_getL hg; simp at this; omega
    subst hk'
    have hs := posL_succ hg
    rw [List.getElem?_append_right (Nat.le_refl _), Nat.sub_self] at hg
    simp at hg; subst hg
    rw [hs, posL_app (Nat.le_refl _), hn]
    obtain ⟨b, hb, _, _, _, he, _⟩ := next_ok hn
    rw [he]
    have : b = posL l l.length := by omega
    rw [this]
theorem chain_ex (s : ByteArray) : ∃ l, Chain s l ∧ (nextV s (posL l l.length : Int)).2.2 ≠ 0 := by
  have key : ∀ m l, Chain s l → s.size - posL l l.length ≤ m → ∃ l', Chain s l' ∧ (nextV s (posL l' l'.length : Int)).2.2 ≠ 0 := by
    intro m
    induction m with
    | zero =>
      intro l h hm
      refine ⟨l, h, fun h0 => ?_⟩
      obtain ⟨b, hb, _, _, _, _, hle, _⟩ := next_ok (s := s) (p := (posL l l.length : Int)) (f := (nextV s (posL l l.length : Int)).1) (e := (nextV s (posL l l.length : Int)).2.1) (by rw [← h0])
      rw [frB_size] at hle; omega
    | succ m ih =>
      intro l h hm
      by_cases h0 : (nextV s (posL l l.length : Int)).2.2 = 0
      · have hn : nextV s (posL l l.length : Int) = ((nextV s (posL l l.length : Int)).1, (nextV s (posL l l.length : Int)).2.1, 0) := by rw [← h0]
        have hc := chain_snoc h hn
        obtain ⟨b, hb, _, _, _, _, hle, _⟩ := next_ok hn
        refine ih _ hc ?_
        rw [List.length_append, List.length_singleton, posL_succ (f := (nextV s (posL l l.length : Int)).1) (by rw [List.getElem?_append_right (Nat.le_refl _), Nat.sub_self]; rfl), posL_app (Nat.le_refl _), frB_size]
        omega
      · exact ⟨l, h, h0⟩
  exact key s.size [] (fun k f h => by simp at h) (by omega)

def endE (s : ByteArray) (l : List T_api_Frame) : Int := if posL l l.length = s.size then 0 else (nextV s (posL l l.length : Int)).2.2
theorem F_allF (s : ByteArray) (hs : s.size ≤ 100000) (l : List T_api_Frame) (h : Chain s l) (he : (nextV s (posL l l.length : Int)).2.2 ≠ 0) : F_frame_All s = some (l, (posL l l.length : Int), endE s l) := by
  have hle := h.le
  have hlen := posL_len l l.length (Nat.le_refl _)
  unfold F_frame_All F_frame_Each
  simp only [Option.bind_some]
  have hl : F_frame_Each_1 s 0 s ([] : List T_api_Frame) = some ((posL l l.length : Int), l) := by
    unfold F_frame_Each_1
    have := Loop_nat (step := fun q : (Int × (List T_api_Frame) × Int) => F_frame_Each_1_L2 s s q.1 q.2.1 q.2.2) (fun k => ((posL l k : Int), l.take k, (posL l k : Int))) l.length (r := ((posL l l.length : Int), l)) (fun k hk => ?_) ?_
    · rw [posL_zero] at this; simpa using this
    · show F_frame_Each_1_L2 s s (posL l k : Int) (l.take k) (posL l k : Int) = _
      have hg := List.getElem?_eq_getElem hk
      have hn := h k _ hg
      unfold F_frame_Each_1_L2 F_R_frame_All_0
      rw [F_next s _ hs, hn]
      simp only [Option.bind_some, bne_self_eq_false, cond_false]
      rw [grd_t (by simp; omega)]
      simp only [Option.bind_some, F_frame_Each_1_J1, cond_false]
      rw [take_snoc hk]
    · show F_frame_Each_1_L2 s s (posL l l.length : Int) (l.take l.length) (posL l l.length : Int) = _
      unfold F_frame_Each_1_L2
      rw [F_next s _ hs]
      simp only [Option.bind_some]
      rw [show ((nextV s (posL l l.length : Int)).2.2 != 0) = true by simpa using he, cond_true]
      simp [F_frame_Each_1_J1]
  rw [hl]
  simp only [Option.bind_some]
  unfold endE
  by_cases hp : posL l l.length = s.size
  · rw [if_pos hp, beqt (by omega), cond_true]
  · rw [if_neg hp, beqf (by omega), cond_false, F_next s _ hs]; rfl
theorem F_allR (s : ByteArray) (hs : s.size ≤ 100000) (l : List T_api_Frame) (h : Chain s l) (he : (nextV s (posL l l.length : Int)).2.2 ≠ 0) : F_retraceref04_All s = some ⟨l, (posL l l.length : Int), endE s l⟩ := by
  have hle := h.le
  have hlen := posL_len l l.length (Nat.le_refl _)
  unfold F_retraceref04_All
  have := Loop_nat (step := fun q : (Int × (List T_api_Frame)) => F_retraceref04_All_L1 s q.1 q.2) (fun k => ((posL l k : Int), l.take k)) l.length (r := ⟨l, (posL l l.length : Int), endE s l⟩) (fun k hk => ?_) ?_
  · rw [posL_zero] at this; simpa using this
  · show F_retraceref04_All_L1 s (posL l k : Int) (l.take k) = _
    have hg := List.getElem?_eq_getElem hk
    have hn := h k _ hg
    obtain ⟨b, hb, _, _, _, _, hle2, _⟩ := next_ok hn
    rw [frB_size] at hle2
    unfold F_retraceref04_All_L1
    rw [dct (by omega), cond_true, F_nextR s _ hs, hn]
    simp only [Option.bind_some, bne_self_eq_false, cond_false]
    rw [grd_t (by simp; omega), take_snoc hk]
  · show F_retraceref04_All_L1 s (posL l l.length : Int) (l.take l.length) = _
    unfold F_retraceref04_All_L1 endE
    by_cases hp : posL l l.length = s.size
    · rw [dcf (by omega), cond_false, if_pos hp]; simp
    · rw [dct (by omega), cond_true, if_neg hp, F_nextR s _ hs]
      simp only [Option.bind_some]
      rw [show ((nextV s (posL l l.length : Int)).2.2 != 0) = true by simpa using he, cond_true]
      simp
theorem fr_eq (x y : T_api_Frame) : ((x.Kind == y.Kind) && ((x.Data.toList == y.Data.toList) && true)) = true ↔ x = y := by
  cases x; cases y; rw [toL_eq]; simp
theorem F_sameF (a b : List T_api_Frame) (hl : a.length < 1000000) (d : Bool) (hd : d = true ↔ a = b) : F_retraceref04_Same a b = some d := by
  unfold F_retraceref04_Same
  by_cases h : a.length = b.length
  · have : (((a.length : Int)) != ((b.length : Int))) = false := by simp; omega
    rw [this, cond_false]
    refine Loop_same a b h (fun x y => ((x.Kind == y.Kind) && ((x.Data.toList == y.Data.toList) && true))) fr_eq (by omega) (fun k x y hx hy => ?_) ?_ d hd
    · have hk := lt_of_getL hx
      show F_retraceref04_Same_L1 a b (k : Int) = _
      unfold F_retraceref04_Same_L1
      rw [lAtn, lAtn, hx, hy, dct (by omega), cond_true]
      simp only [Option.bind_some]
      cases ((x.Kind == y.Kind) && ((x.Data.toList == y.Data.toList) && true)) <;> rfl
    · show F_retraceref04_Same_L1 a b (a.length : Int) = _
      unfold F_retraceref04_Same_L1
      simp
  · have : (((a.length : Int)) != ((b.length : Int))) = true := by simp; omega
    rw [this, cond_true]
    cases d with
    | false => rfl
    | true => have := hd.1 rfl; subst this; exact absurd rfl h
def catF (l : List T_api_Frame) : ByteArray := strOfNums (l.flatMap fun f => sB (frB f))
theorem catF_snoc (l : List T_api_Frame) (f : T_api_Frame) : catF (l ++ [f]) = catF l ++ frB f := by
  unfold catF
  rw [List.flatMap_append, num_app]
  simp [num_sB]
theorem catF_size (l : List T_api_Frame) : ∀ k, k ≤ l.length → (catF (l.take k)).size = posL l k
  | 0, _ => by simp [catF, posL]; rfl
  | k + 1, h => by
    rw [take_snoc (by omega), catF_snoc, size_app, catF_size l k (by omega), posL_succ (List.getElem?_eq_getElem (by omega))]
set_option maxRecDepth 100000 in
theorem F_joinF (l : List T_api_Frame) (hl : l.length ≤ 3000) (hk : ∀ f ∈ l, 0 ≤ f.Kind ∧ f.Kind ≤ 255 ∧ f.Data.size ≤ 3000) : F_retraceref04_Joined l = some (catF l, (List.range (l.length + 1)).map fun k => (posL l k : Int)) := by
  have hpos : ∀ k, k ≤ l.length → posL l k ≤ k * 4000 := by
    intro k
    induction k with
    | zero => intro _; rw [posL_zero]; omega
    | succ k ih =>
      intro h
      have hg := List.getElem?_eq_getElem (show k < l.length by omega)
      have h1 := hk _ (List.mem_of_getElem? hg)
      have h2 := (numL_len ((l[k]'(by omega)).Data.size : Int)).1
      have h3 := ih (by omega)
      rw [posL_succ hg, frB_size, Nat.succ_mul]; omega
  unfold F_retraceref04_Joined
  have := Loop_nat (step := fun q : (ByteArray × Int × (List Int)) => F_retraceref04_Joined_L1 l q.1 q.2.1 q.2.2) (fun k => (catF (l.take k), (k : Int), (List.range k).map fun k => (posL l k : Int))) l.length (r := (catF l, (List.range (l.length + 1)).map fun k => (posL l k : Int))) (fun k hk' => ?_) ?_
  · have e0 : strOfNums [] = (⟨#[]⟩ : ByteArray) := rfl
    simpa [catF, e0] using this
  · show F_retraceref04_Joined_L1 l (catF (l.take k)) (k : Int) ((List.range k).map fun k => (posL l k : Int)) = _
    have hg := List.getElem?_eq_getElem hk'
    have h1 := hk _ (List.mem_of_getElem? hg)
    have h2 := (numL_len (l[k].Data.size : Int)).1
    have h3 := hpos k (by omega)
    unfold F_retraceref04_Joined_L1
    rw [dct (by omega), cond_true, grd_t (by simp; omega), lAt_lt hk']
    simp only [Option.bind_some]
    rw [F_bytesF _ (by omega)]
    simp only [Option.bind_some]
    unfold putV
    rw [if_neg (by omega)]
    simp only []
    rw [grd_t (by rw [catF_size l k (by omega), frB_size]; omega), w64s (by omega), catF_size l k (by omega), take_snoc hk', catF_snoc, List.range_succ, List.map_append]
    rfl
  · show F_retraceref04_Joined_L1 l (catF (l.take l.length)) (l.length : Int) _ = _
    unfold F_retraceref04_Joined_L1
    rw [dcf (by omega), cond_false, grd_t (by simp; omega), catF_size l _ (Nat.le_refl _), List.take_length, List.range_succ (n := l.length), List.map_append]
    rfl
end Go.Ab
