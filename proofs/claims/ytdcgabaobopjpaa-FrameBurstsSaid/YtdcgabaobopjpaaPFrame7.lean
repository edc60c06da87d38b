/- FrameCuts, plainly. -/
import Derived.Test.YtdcgabaobopjpaaPFrame6
namespace Go.Ab
set_option linter.unusedVariables false

theorem F_largeF (l : List T_api_Frame) : ∃ r, F_retracelaw04_large l = some r ∧ (r = false → l.length ≤ 20 ∧ ∀ f ∈ l, f.Data.size ≤ 300) := by
  unfold F_retracelaw04_large
  refine Loop_ex (fun s => ∃ k : Nat, s = (k : Int) ∧ k ≤ l.length ∧ k ≤ 20 ∧ ∀ f ∈ l.take k, f.Data.size ≤ 300) (fun s => l.length - s.toNat) _ (fun s hs => ?_) 0 ⟨0, rfl, Nat.zero_le _, by omega, by simp⟩
  obtain ⟨k, rfl, hk, h20, hall⟩ := hs
  show (∃ s', F_retracelaw04_large_L2 l (k : Int) = _ ∧ _) ∨ ∃ r, F_retracelaw04_large_L2 l (k : Int) = _ ∧ _
  unfold F_retracelaw04_large_L2
  have stop : F_retracelaw04_large_J1 l (k : Int) false = some (.inr (decide (20 < (l.length : Int)))) := by
    unfold F_retracelaw04_large_J1; rw [cond_false]; rfl
  by_cases h1 : k < l.length
  · rw [dct (by omega), cond_true]
    by_cases h2 : k < 20
    · rw [dct (by omega)]
      unfold F_retracelaw04_large_J1
      rw [cond_true, lAt_lt h1]
      simp only [Option.bind_some]
      by_cases h3 : 300 < ((l[k]'h1).Data.size : Int)
      · right; rw [dct h3, cond_true]; exact ⟨true, rfl, by intro h; cases h⟩
      · left; rw [dcf h3, cond_false, w64s (by omega)]
        refine ⟨_, rfl, ⟨k + 1, rfl, by omega, by omega, ?_⟩, by simp; omega⟩
        intro f hf
        rw [take_snoc h1] at hf
        rcases List.mem_append.1 hf with h | h
        · exact hall f h
        · simp at h; subst h; omega
    · right; rw [dcf (by omega), stop]
      exact ⟨_, rfl, fun h => by simp at h; omega⟩
  · right; rw [dcf (by omega), cond_false, stop]
    refine ⟨_, rfl, fun h => ⟨by simp at h; omega, ?_⟩⟩
    rw [List.take_of_length_le (by omega)] at hall; exact hall
theorem F_rightF (l : List T_api_Frame) (hl : l.length < 9223372036854775807) : ∃ r, F_retraceref04_Right l = some r ∧ (r = true → ∀ f ∈ l, 0 ≤ f.Kind ∧ f.Kind ≤ 255) := by
  unfold F_retraceref04_Right
  refine Loop_ex (fun s => ∃ k : Nat, s = (k : Int) ∧ k ≤ l.length ∧ ∀ f ∈ l.take k, 0 ≤ f.Kind ∧ f.Kind ≤ 255) (fun s => l.length - s.toNat) _ (fun s hs => ?_) 0 ⟨0, rfl, Nat.zero_le _, by simp⟩
  obtain ⟨k, rfl, hk, hall⟩ := hs
  show (∃ s', F_retraceref04_Right_L2 l (k : Int) = _ ∧ _) ∨ ∃ r, F_retraceref04_Right_L2 l (k : Int) = _ ∧ _
  unfold F_retraceref04_Right_L2
  by_cases h1 : k < l.length
  · rw [dct (by omega), cond_true, lAt_lt h1]
    simp only [Option.bind_some, F_retraceref04_Right_J1]
    by_cases h2 : (l[k]'h1).Kind < 0
    · right; rw [dct h2, cond_true]; exact ⟨false, rfl, by intro h; cases h⟩
    · rw [dcf h2, cond_false]
      by_cases h3 : 255 < (l[k]'h1).Kind
      · right; rw [dct h3]; exact ⟨false, rfl, by intro h; cases h⟩
      · left; rw [dcf h3, w64s (by omega)]
        refine ⟨_, rfl, ⟨k + 1, rfl, by omega, ?_⟩, by simp; omega⟩
        intro f hf
        rw [take_snoc h1] at hf
        rcases List.mem_append.1 hf with h | h
        · exact hall f h
        · simp at h; subst h; omega
  · right; rw [dcf (by omega), cond_false]
    refine ⟨true, rfl, fun _ => ?_⟩
    rw [List.take_of_length_le (by omega)] at hall; exact hall

theorem catF_app (a b : List T_api_Frame) : catF (a ++ b) = catF a ++ catF b := by
  unfold catF; rw [List.flatMap_append, num_app]
theorem catF_one (f : T_api_Frame) : catF [f] = frB f := by unfold catF; simp [num_sB]
theorem catF_size' (l : List T_api_Frame) : (catF l).size = posL l l.length := by
  have := catF_size l l.length (Nat.le_refl _); rwa [List.take_length] at this
def okF (l : List T_api_Frame) : Prop := ∀ f ∈ l, 0 ≤ f.Kind ∧ f.Kind ≤ 255 ∧ f.Data.size ≤ 300
theorem chain_cat (l : List T_api_Frame) (hk : okF l) (B : ByteArray) : Chain (catF l ++ B) l := by
  intro k f hf
  have hlt := lt_of_getL hf
  have hfk : l[k] = f := by rw [List.getElem?_eq_getElem hlt] at hf; exact Option.some.inj hf
  have hd : l = l.take k ++ [f] ++ l.drop (k + 1) := by
    rw [← hfk, ← take_snoc hlt, List.take_append_drop]
  have hs : catF l ++ B = catF (l.take k) ++ frB f ++ (catF (l.drop (k + 1)) ++ B) := by
    conv => lhs; rw [hd]
    rw [catF_app, catF_app, catF_one]; simp only [app_assoc]
  have h1 := hk f (List.mem_of_getElem? hf)
  rw [hs, ← catF_size l k (by omega), next_put _ _ f h1.1 h1.2.1 (by omega), posL_succ hf, ← catF_size l k (by omega)]
theorem pos_take {l : List T_api_Frame} {n k : Nat} (h : k ≤ n) : posL (l.take n) k = posL l k := by
  unfold posL; rw [List.take_take, Nat.min_eq_left h]
theorem ext_cat (A B : ByteArray) : (A ++ B).extract 0 A.size = A := by
  apply sB_inj
  rw [sB_cut, sB_app, List.drop_zero, List.take_append_of_le_length (by rw [sB_len]; omega), List.take_of_length_le (by rw [sB_len]; omega)]
theorem ext_split (s : ByteArray) (a b : Nat) (h : a ≤ b) (hb : b ≤ s.size) : s.extract 0 b = s.extract 0 a ++ s.extract a b := by
  apply sB_inj
  rw [sB_app, sB_cut, sB_cut, sB_cut, List.drop_zero, List.drop_zero]
  apply List.ext_getElem?
  intro q
  rcases Nat.lt_or_ge q a with hq | hq
  · rw [List.getElem?_append_left (by rw [List.length_take, sB_len]; omega), List.getElem?_take, List.getElem?_take, if_pos (by omega), if_pos hq]
  · rw [List.getElem?_append_right (by rw [List.length_take, sB_len]; omega), List.length_take, sB_len, List.getElem?_drop, List.getElem?_take, List.getElem?_take, Nat.min_eq_left (by omega)]
    by_cases hq2 : q < b
    · rw [if_pos hq2, if_pos (by omega)]; congr 1; omega
    · rw [if_neg hq2, if_neg (by omega)]

set_option maxRecDepth 100000 in
/-- A cut within a frame is wrong. -/
theorem cut_end (l : List T_api_Frame) (hk : okF l) (n cut : Nat) (hn : n ≤ l.length) (h1 : posL l n ≤ cut) (hc : cut ≤ posL l l.length) (h2 : n < l.length → cut < posL l (n + 1)) :
    (nextV ((catF l).extract 0 cut) (posL l n : Int)).2.2 ≠ 0 := by
  have hsz : (catF l).size = posL l l.length := catF_size' l
  have hsz' : ((catF l).extract 0 cut).size = cut := by rw [ByteArray.size_extract, hsz]; omega
  intro h0
  obtain ⟨b, hb, k0, k1, ks, he, hle, hex⟩ := next_ok (s := (catF l).extract 0 cut) (p := (posL l n : Int)) (f := (nextV ((catF l).extract 0 cut) (posL l n : Int)).1) (e := (nextV ((catF l).extract 0 cut) (posL l n : Int)).2.1) (by rw [← h0])
  generalize (nextV ((catF l).extract 0 cut) (posL l n : Int)).1 = f at *
  have hbn : b = posL l n := by omega
  subst hbn
  rw [hsz'] at hle
  have hfs := frB_size f
  have hnl : n < l.length := by
    rcases Nat.lt_or_ge n l.length with h | h
    · exact h
    · have : n = l.length := by omega
      subst this; omega
  have hcut := h2 hnl
  -- the whole bytes begin there with this frame, too
  have hw : catF l = (catF l).extract 0 (posL l n) ++ frB f ++ (catF l).extract (posL l n + (frB f).size) (catF l).size := by
    have e1 := ext_split (catF l) (posL l n) (posL l n + (frB f).size) (by omega) (by rw [hsz]; omega)
    have e2 := ext_split (catF l) (posL l n + (frB f).size) (catF l).size (by rw [hsz]; omega) (Nat.le_refl _)
    rw [ext_all] at e2
    have e3 := ext_ext (catF l) 0 cut (posL l n) (posL l n + (frB f).size) (by omega)
    rw [Nat.zero_add, Nat.zero_add] at e3
    have hx2 : (catF l).extract (posL l n) (posL l n + (frB f).size) = frB f := e3.symm.trans hex
    refine e2.trans ?_
    rw [e1, hx2]
  have hA : ((catF l).extract 0 (posL l n)).size = posL l n := by rw [ByteArray.size_extract, hsz]; omega
  have hn1 : nextV (catF l) (posL l n : Int) = (f, ((posL l n + (frB f).size : Nat) : Int), 0) := by
    have := next_put ((catF l).extract 0 (posL l n)) ((catF l).extract (posL l n + (frB f).size) (catF l).size) f k0 k1 ks
    rw [← hw, hA] at this; exact this
  have hg := List.getElem?_eq_getElem hnl
  have hn2 := chain_cat l hk ⟨#[]⟩ n _ hg
  have : catF l ++ (⟨#[]⟩ : ByteArray) = catF l := by apply sB_inj; rw [sB_app, sB_nil, List.append_nil]
  rw [this, hn1] at hn2
  simp only [Prod.mk.injEq, and_true] at hn2
  omega

set_option maxRecDepth 100000 in
theorem law_fcuts (l : List T_api_Frame) (cut : Int) : F_retracelaw04_FrameCuts l cut = some true := by
  have hbig : F_retracelaw04_FrameCuts_J1 l cut true = some true := by
    unfold F_retracelaw04_FrameCuts_J1; rw [cond_true, ev_retracelaw04_live]; rfl
  unfold F_retracelaw04_FrameCuts
  obtain ⟨r, hr, hr2⟩ := F_largeF l
  rw [hr]
  simp only [Option.bind_some]
  cases r with
  | true => rw [cond_true, hbig]
  | false =>
    obtain ⟨h20, h300⟩ := hr2 rfl
    rw [cond_false]
    obtain ⟨q, hq, hq2⟩ := F_rightF l (by omega)
    rw [hq]
    simp only [Option.bind_some]
    cases q with
    | false => rw [Bool.not_false, hbig]
    | true =>
      have hkind := hq2 rfl
      have hok : okF l := fun f hf => ⟨(hkind f hf).1, (hkind f hf).2, h300 f hf⟩
      rw [Bool.not_true]
      unfold F_retracelaw04_FrameCuts_J1
      rw [cond_false, F_joinF l (by omega) (fun f hf => ⟨(hok f hf).1, (hok f hf).2.1, by have := (hok f hf).2.2; omega⟩)]
      simp only [Option.bind_some]
      have big2 : ∀ y, F_retracelaw04_FrameCuts_J2 l cut y true = some true := by
        intro y; unfold F_retracelaw04_FrameCuts_J2; rw [cond_true, ev_retracelaw04_live]; rfl
      by_cases hc0 : cut < 0
      · rw [dct hc0, cond_true, big2]
      rw [dcf hc0, cond_false]
      by_cases hc1 : ((catF l).size : Int) < cut
      · rw [dct hc1, big2]
      rw [dcf hc1]
      obtain ⟨c, rfl⟩ := Int.eq_ofNat_of_zero_le (Int.not_lt.1 hc0)
      have hsz : (catF l).size = posL l l.length := catF_size' l
      have hpb : ∀ k, k ≤ l.length → posL l k ≤ k * 400 := by
        intro k
        induction k with
        | zero => intro _; rw [posL_zero]; omega
        | succ k ih =>
          intro h
          have hg := List.getElem?_eq_getElem (show k < l.length by omega)
          have h1 := (hok _ (List.mem_of_getElem? hg)).2.2
          have h2 := (numL_len ((l[k]'(by omega)).Data.size : Int)).1
          have h3 := ih (by omega)
          rw [posL_succ hg, frB_size, Nat.succ_mul]; omega
      have hp20 := hpb l.length (Nat.le_refl _)
      -- how many are ahead of the cut
      obtain ⟨n, hn, hn1, hn2⟩ : ∃ n, n ≤ l.length ∧ (∀ k, k < n → posL l (k + 1) ≤ c) ∧ (n < l.length → c < posL l (n + 1)) := by
        have key : ∀ d n, n + d = l.length → (∀ k, k < n → posL l (k + 1) ≤ c) → ∃ n, n ≤ l.length ∧ (∀ k, k < n → posL l (k + 1) ≤ c) ∧ (n < l.length → c < posL l (n + 1)) := by
          intro d
          induction d with
          | zero => intro n hn h; exact ⟨n, by omega, h, fun h' => by omega⟩
          | succ d ih =>
            intro n hn h
            by_cases hx : posL l (n + 1) ≤ c
            · exact ih (n + 1) (by omega) fun k hk => by
                rcases Nat.lt_or_ge k n with h' | h'
                · exact h k h'
                · rw [show k = n by omega]; exact hx
            · exact ⟨n, by omega, h, fun _ => by omega⟩
        exact key l.length 0 (by omega) (fun k hk => by omega)
      have hnc : posL l n ≤ c := by
        cases n with
        | zero => rw [posL_zero]; omega
        | succ n => exact hn1 n (by omega)
      unfold F_retracelaw04_FrameCuts_J2
      rw [cond_false]
      have hend := cut_end l hok n c hn hnc (by omega) hn2
      have hch : Chain ((catF l).extract 0 c) (l.take n) := by
        have : (catF l).extract 0 c = catF (l.take n) ++ (catF l).extract (posL l n) c := by
          rw [ext_split (catF l) (posL l n) c hnc (by omega)]
          congr 1
          have h1 : catF l = catF (l.take n) ++ catF (l.drop n) := by rw [← catF_app, List.take_append_drop]
          rw [h1, ← catF_size l n hn, ext_cat]
        rw [this]
        exact chain_cat _ (fun f hf => hok f (List.mem_of_mem_take hf)) _
      have hlen : (l.take n).length = n := by rw [List.length_take]; omega
      have hpt : posL (l.take n) n = posL l n := pos_take (Nat.le_refl _)
      have hszc : ((catF l).extract 0 c).size = c := by rw [ByteArray.size_extract]; omega
      have hall := F_allF ((catF l).extract 0 c) (by omega) (l.take n) hch (by rw [hlen, hpt]; exact hend)
      rw [hlen, hpt] at hall
      refine (Loop_nat (step := fun s : Int => F_retracelaw04_FrameCuts_L5 l (c : Int) (catF l, (List.range (l.length + 1)).map fun k => (posL l k : Int)) s) (fun k => (k : Int)) n (r := true) (fun k hk => ?_) ?_)
      · show F_retracelaw04_FrameCuts_L5 l (c : Int) _ (k : Int) = _
        unfold F_retracelaw04_FrameCuts_L5
        rw [dct (by omega), cond_true, w64s (by omega), places_at l (by omega)]
        simp only [Option.bind_some]
        have := hn1 k hk
        rw [dct (by omega)]
        unfold F_retracelaw04_FrameCuts_J3
        rw [cond_true, w64s (by omega)]
      · show F_retracelaw04_FrameCuts_L5 l (c : Int) _ (n : Int) = _
        have fin : F_retracelaw04_FrameCuts_J3 l (c : Int) (catF l, (List.range (l.length + 1)).map fun k => (posL l k : Int)) (n : Int) false = some (.inr true) := by
          unfold F_retracelaw04_FrameCuts_J3
          rw [cond_false, grd_t (by simp; omega), Int.toNat_zero, Int.toNat_natCast, hall]
          simp only [Option.bind_some]
          rw [grd_t (by omega), lCut0, F_sameF _ _ (by omega) true (by simp), places_at l hn]
          simp only [Option.bind_some, cond_true, beq_self_eq_true]
          have hb : ((endE ((catF l).extract 0 c) (l.take n) == 0) == ((c : Int) == (posL l n : Int))) = true := by
            unfold endE
            rw [hlen, hpt, hszc]
            by_cases hx : posL l n = c
            · rw [if_pos hx, beqt (show (c : Int) = (posL l n : Int) by omega)]; rfl
            · rw [if_neg hx, beqf hend, beqf (show ¬ (c : Int) = (posL l n : Int) by omega)]; rfl
          rw [hb, cond_true, ev_retracelaw04_live]
          rfl
        unfold F_retracelaw04_FrameCuts_L5
        by_cases hnl : n < l.length
        · rw [dct (by omega), cond_true, w64s (by omega), places_at l (by omega)]
          simp only [Option.bind_some]
          have := hn2 hnl
          rw [dcf (by omega), fin]
        · rw [dcf (by omega), cond_false, fin]
end Go.Ab
