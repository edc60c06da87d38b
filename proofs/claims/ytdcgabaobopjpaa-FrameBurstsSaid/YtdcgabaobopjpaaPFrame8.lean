/- FrameBursts, plainly. -/
import Derived.Test.YtdcgabaobopjpaaPFrame7
namespace Go.Ab
set_option linter.unusedVariables false

theorem bytesN_shift (p d m a : Nat) : bytesN (p + d) (m * 2 ^ (8 * p + a)) = List.replicate p 0 ++ bytesN d (m * 2 ^ a) := by
  apply List.ext_getElem?
  intro j
  rcases Nat.lt_or_ge j p with hj | hj
  · rw [bytesN_get _ _ _ (by omega), List.getElem?_append_left (by rw [List.length_replicate]; exact hj), List.getElem?_replicate, if_pos hj]
    congr 1
    have e : m * 2 ^ (8 * p + a) = (m * 2 ^ (8 * (p - j - 1) + a) * 256) * 2 ^ (8 * j) := by
      rw [show 8 * p + a = (8 * (p - j - 1) + a) + 8 + 8 * j by omega, Nat.pow_add, Nat.pow_add _ _ 8, ← Nat.mul_assoc, ← Nat.mul_assoc]
    rw [e, Nat.mul_div_cancel _ (Nat.pow_pos (by decide)), Nat.mul_mod_left]
  · rcases Nat.lt_or_ge j (p + d) with hd | hd
    · rw [bytesN_get _ _ _ hd, List.getElem?_append_right (by rw [List.length_replicate]; exact hj), List.length_replicate, bytesN_get _ _ _ (by omega)]
      congr 2
      rw [show 8 * p + a = a + 8 * p by omega, Nat.pow_add, ← Nat.mul_assoc, show 8 * j = 8 * (j - p) + 8 * p by omega, Nat.pow_add]
      rw [Nat.mul_div_mul_right _ _ (Nat.pow_pos (by decide))]
    · rw [List.getElem?_eq_none (by rw [bytesN_len]; exact hd), List.getElem?_eq_none (by rw [List.length_append, List.length_replicate, bytesN_len]; omega)]
theorem xorL_app {a b c d : List Nat} (h : a.length = c.length) : xorL (a ++ b) (c ++ d) = xorL a c ++ xorL b d := by
  unfold xorL; exact List.zipWith_append h
theorem turn_app (P D : ByteArray) (a m : Nat) : turnS (P ++ D) (8 * P.size + a) m = P ++ turnS D a m := by
  apply nB_inj
  rw [nB_app, nB_turn, nB_turn, nB_app, size_app, bytesN_shift, xorL_app (by rw [List.length_replicate, nB_len])]
  congr 1
  have := xorL_zero (nB P)
  rw [nB_len] at this; exact this

def preF (f : T_api_Frame) : ByteArray := strOfNums [f.Kind] ++ strOfNums (numL f.Data.size)
def tailF (f : T_api_Frame) : ByteArray := f.Data ++ strOfNums (leN (moreN 0 (hdrB f.Kind f.Data)))
theorem frB_two (f : T_api_Frame) : frB f = preF f ++ tailF f := by
  unfold frB preF tailF; rw [show hdrB f.Kind f.Data = strOfNums [f.Kind] ++ strOfNums (numL f.Data.size) ++ f.Data from rfl]; simp only [app_assoc]
theorem preF_size (f : T_api_Frame) : (preF f).size = 1 + (numL f.Data.size).length := by unfold preF; rw [size_app, num_size, num_size]; rfl
theorem tailF_size (f : T_api_Frame) : (tailF f).size = f.Data.size + 4 := by unfold tailF; rw [size_app, leN_size]

/-- A frame with turned bits is told wrong. -/
theorem next_turned (A B : ByteArray) (f : T_api_Frame) (hk0 : 0 ≤ f.Kind) (hk1 : f.Kind ≤ 255) (hs : f.Data.size ≤ 1048576) (a m : Nat) (hm : m < 4294967296) (hne : turnS (tailF f) a m ≠ tailF f) :
    nextV (A ++ (preF f ++ turnS (tailF f) a m) ++ B) (A.size : Int) = (noF, 0, 4) := by
  obtain ⟨X, hX⟩ : ∃ X, preF f ++ turnS (tailF f) a m = X := ⟨_, rfl⟩
  have hXt : X = turnS (frB f) (8 * (preF f).size + a) m := by rw [← hX, frB_two, turn_app]
  have hXs : X.size = 1 + (numL f.Data.size).length + f.Data.size + 4 := by rw [← hX, size_app, turn_size, preF_size, tailF_size]; omega
  rw [hX]
  have hsz : (A ++ X ++ B).size = A.size + X.size + B.size := by rw [size_app, size_app]
  have hget : getV (A ++ X ++ B) (((A.size + 1 : Nat)) : Int) = ((f.Data.size : Int), ((A.size + 1 + (numL f.Data.size).length : Nat) : Int), 0) := by
    refine getV_fwd _ _ _ (sB (turnS (tailF f) a m) ++ sB B) (by omega) (by omega) ?_
    have hL : sB (A ++ X ++ B) = (sB A ++ [f.Kind]) ++ (numL f.Data.size ++ (sB (turnS (tailF f) a m) ++ sB B)) := by
      rw [← hX]; unfold preF
      simp only [sB_app, List.append_assoc]
      rw [sB_num (l := [f.Kind]) (by simp; omega), sB_num (numL_mem (by omega) (by omega))]
    rw [hL, List.drop_append, List.drop_eq_nil_of_le (by simp [sB_len])]
    simp [sB_len]
  have hXe : (A ++ X ++ B).extract A.size (A.size + X.size) = X := ext_mid A X B
  have e1 : (A ++ X ++ B).extract A.size (A.size + 1 + (numL f.Data.size).length + f.Data.size) = X.extract 0 (X.size - 4) := by
    have h := ext_ext (A ++ X ++ B) A.size (A.size + X.size) 0 (X.size - 4) (by omega)
    rw [hXe] at h
    rw [Nat.add_zero] at h
    rw [h, show A.size + (X.size - 4) = A.size + 1 + (numL (f.Data.size : Int)).length + f.Data.size by omega]
  have e2 : (A ++ X ++ B).extract (A.size + 1 + (numL f.Data.size).length + f.Data.size) (A.size + 1 + (numL f.Data.size).length + f.Data.size + 4) = X.extract (X.size - 4) X.size := by
    have h := ext_ext (A ++ X ++ B) A.size (A.size + X.size) (X.size - 4) X.size (by omega)
    rw [hXe] at h
    rw [h, show A.size + (X.size - 4) = A.size + 1 + (numL (f.Data.size : Int)).length + f.Data.size by omega, show A.size + X.size = A.size + 1 + (numL (f.Data.size : Int)).length + f.Data.size + 4 by omega]
  unfold nextV
  rw [if_neg (by rw [hsz]; omega), if_neg (by rw [hsz, hXs]; omega), show ((A.size : Int) + 1) = ((A.size + 1 : Nat) : Int) by simp, hget]
  simp only []
  rw [if_neg (by simp), if_neg (by omega), if_neg (by rw [hsz, hXs]; omega)]
  have t1 : Int.toNat (((A.size + 1 + (numL f.Data.size).length : Nat) : Int) + (f.Data.size : Int)) = A.size + 1 + (numL f.Data.size).length + f.Data.size := by omega
  have t2 : Int.toNat (((A.size + 1 + (numL f.Data.size).length : Nat) : Int) + (f.Data.size : Int) + 4) = A.size + 1 + (numL f.Data.size).length + f.Data.size + 4 := by omega
  rw [t1, t2, Int.toNat_natCast, e1, e2, if_neg]
  intro hq
  have ho : (openV X).2 = 0 := by
    unfold openV; rw [if_neg (by omega), if_pos hq]
  rw [hXt] at ho
  have := (open_turn (hdrB f.Kind f.Data) (8 * (preF f).size + a) m hm).1 ho
  have h2 : turnS (frB f) (8 * (preF f).size + a) m = frB f := this
  rw [frB_two, turn_app] at h2
  apply hne
  have h3 := congrArg sB h2
  rw [sB_app, sB_app] at h3
  exact sB_inj (List.append_cancel_left h3)

set_option maxRecDepth 100000 in
theorem law_fbursts (l : List T_api_Frame) (k at_ m : Int) (hk : -9223372036854775808 ≤ k ∧ k ≤ 9223372036854775807) (hm0 : 0 ≤ m) (hm1 : m ≤ 4294967295) : F_retracelaw04_FrameBursts l k at_ m = some true := by
  have hbig : F_retracelaw04_FrameBursts_J1 l k at_ m true = some true := by
    unfold F_retracelaw04_FrameBursts_J1; rw [cond_true, ev_retracelaw04_live]; rfl
  unfold F_retracelaw04_FrameBursts
  obtain ⟨r, hr, hr2⟩ := F_largeF l
  rw [hr]
  simp only [Option.bind_some]
  cases r with
  | true => rw [cond_true, hbig]
  | false =>
  obtain ⟨h20, h300⟩ := hr2 rfl
  rw [cond_false]
  obtain ⟨q, hq, hq2⟩ := F_rightF l (by omega)
  rw [hq]
  simp only [Option.bind_some]
  cases q with
  | false => rw [Bool.not_false, cond_true, hbig]
  | true =>
  have hkind := hq2 rfl
  have hok : okF l := fun f hf => ⟨(hkind f hf).1, (hkind f hf).2, h300 f hf⟩
  rw [Bool.not_true, cond_false]
  by_cases hk0 : k < 0
  · rw [dct hk0, cond_true, hbig]
  rw [dcf hk0, cond_false]
  by_cases hk1 : (l.length : Int) ≤ k
  · rw [dct hk1, hbig]
  rw [dcf hk1]
  obtain ⟨n, rfl⟩ := Int.eq_ofNat_of_zero_le (Int.not_lt.1 hk0)
  obtain ⟨m, rfl⟩ := Int.eq_ofNat_of_zero_le hm0
  have hn : n < l.length := by omega
  have hg := List.getElem?_eq_getElem hn
  obtain ⟨f, hf⟩ : ∃ f, l[n]'hn = f := ⟨_, rfl⟩
  rw [hf] at hg
  have hfo := hok f (List.mem_of_getElem? hg)
  have hsz : (catF l).size = posL l l.length := catF_size' l
  have hpb : ∀ k, k ≤ l.length → posL l k ≤ k * 400 := by
    intro k
    induction k with
    | zero => intro _; rw [posL_zero]; omega
    | succ k ih =>
      intro h
      have hg := List.getElem?_eq_getElem (show k < l.length by omega)
      have h1 := (hok _ (List.mem_of_getElem? hg)).2.2
      have h2 := (numL_len ((l[k]'(by omega)).Data.size : Int)).1
      have h3 := ih (by omega)
      rw [posL_succ hg, frB_size, Nat.succ_mul]; omega
  have hp20 := hpb l.length (Nat.le_refl _)
  have hpn := posL_mono (l := l) (show n + 1 ≤ l.length by omega)
  have hps := posL_succ hg
  have hfs := frB_size f
  unfold F_retracelaw04_FrameBursts_J1
  rw [cond_false, F_joinF l (by omega) (fun f hf => ⟨(hok f hf).1, (hok f hf).2.1, by have := (hok f hf).2.2; omega⟩)]
  simp only [Option.bind_some]
  rw [w64s (by omega), places_at l (by omega), lAtn, hg]
  simp only [Option.bind_some]
  have big2 : ∀ y z w, F_retracelaw04_FrameBursts_J2 l (n : Int) at_ (m : Int) y z w true = some true := by
    intro y z w; unfold F_retracelaw04_FrameBursts_J2; rw [cond_true, ev_retracelaw04_live]; rfl
  by_cases ha0 : at_ < 0
  · rw [dct ha0, cond_true, big2]
  rw [dcf ha0, cond_false, w64i (n := (f.Data.size : Int) + 4) (by omega) (by omega), w64i (by omega) (by omega)]
  by_cases ha1 : 8 * ((f.Data.size : Int) + 4) ≤ at_
  · rw [dct ha1, big2]
  rw [dcf ha1]
  obtain ⟨a, rfl⟩ := Int.eq_ofNat_of_zero_le (Int.not_lt.1 ha0)
  unfold F_retracelaw04_FrameBursts_J2
  rw [cond_false, w64i (n := ((posL l (n + 1) : Nat) : Int) - 4) (by omega) (by omega), w64i (by omega) (by omega), w64s (by omega), places_at l (by omega)]
  have hfrom : ((posL l (n + 1) : Nat) : Int) - 4 - (f.Data.size : Int) = ((posL l n + (preF f).size : Nat) : Int) := by rw [preF_size]; omega
  rw [hfrom]
  have hpre := preF_size f
  have htl := tailF_size f
  simp only [Option.bind_some]
  rw [grd_t (by omega), grd_t (by omega), Int.toNat_natCast, Int.toNat_natCast, Int.toNat_natCast, Int.toNat_zero]
  -- the parts
  have hd : catF l = catF (l.take n) ++ preF f ++ tailF f ++ catF (l.drop (n + 1)) := by
    have : l = l.take n ++ [f] ++ l.drop (n + 1) := by rw [← hf, ← take_snoc hn, List.take_append_drop]
    conv => lhs; rw [this]
    rw [catF_app, catF_app, catF_one, frB_two]; simp only [app_assoc]
  have hA : (catF (l.take n)).size = posL l n := catF_size l n (by omega)
  have hAP : (catF (l.take n) ++ preF f).size = posL l n + (preF f).size := by rw [size_app, hA]
  have x1 : (catF l).extract 0 (posL l n + (preF f).size) = catF (l.take n) ++ preF f := by
    rw [hd, ← hAP, app_assoc (catF (l.take n) ++ preF f), ext_cat]
  have x2 : (catF l).extract (posL l n + (preF f).size) (posL l (n + 1)) = tailF f := by
    have := ext_mid (catF (l.take n) ++ preF f) (tailF f) (catF (l.drop (n + 1)))
    rw [← hd, hAP, htl] at this
    rw [show posL l (n + 1) = posL l n + (preF f).size + (f.Data.size + 4) by omega]; exact this
  have x3 : (catF l).extract (posL l (n + 1)) (catF l).size = catF (l.drop (n + 1)) := by
    have hw : catF l = (catF (l.take n) ++ preF f ++ tailF f) ++ catF (l.drop (n + 1)) ++ ⟨#[]⟩ := by
      rw [← hd]; apply sB_inj; rw [sB_app, sB_nil, List.append_nil]
    have := ext_mid (catF (l.take n) ++ preF f ++ tailF f) (catF (l.drop (n + 1))) ⟨#[]⟩
    rw [← hw] at this
    have e : (catF (l.take n) ++ preF f ++ tailF f).size = posL l (n + 1) := by rw [size_app, hAP, htl]; omega
    rw [e] at this
    have hcs : (catF l).size = posL l (n + 1) + (catF (l.drop (n + 1))).size := by
      have := congrArg ByteArray.size hd
      rw [size_app _ (catF (l.drop (n + 1))), e] at this; exact this
    rw [hcs]
    exact this
  rw [x1, x2, x3, F_turned _ a m (by omega) (by omega) (by omega)]
  simp only [Option.bind_some]
  have hts := turn_size (tailF f) a m
  have hrs : (catF (l.drop (n + 1))).size ≤ 8000 := by
    have := congrArg ByteArray.size hd
    rw [size_app] at this; omega
  rw [grd_t (by rw [hAP, hts]; omega), grd_t (by omega), grd_t (by rw [size_app, hAP, hts]; omega)]
  obtain ⟨T, hT⟩ : ∃ T, catF (l.take n) ++ preF f ++ turnS (tailF f) a m ++ catF (l.drop (n + 1)) = T := ⟨_, rfl⟩
  have hTs : T.size ≤ 20000 := by rw [← hT, size_app, size_app, hAP, hts]; omega
  rw [hT, toL_eq]
  by_cases hq : T = catF l
  · rw [decide_eq_true hq, hq]
    have hall := F_allF (catF l) (by omega) l (by
      have := chain_cat l hok ⟨#[]⟩
      have e : catF l ++ (⟨#[]⟩ : ByteArray) = catF l := by apply sB_inj; rw [sB_app, sB_nil, List.append_nil]
      rwa [e] at this) (by
      unfold nextV; rw [if_neg (by omega), if_pos (by omega)]; simp)
    rw [hall]
    simp only [Option.bind_some, cond_true]
    rw [F_sameF l l (by omega) true (by simp)]
    simp only [Option.bind_some, cond_true, ev_retracelaw04_live, F_retracelaw04_FrameBursts_J3]
    unfold endE
    rw [if_pos (by omega)]; rfl
  · rw [decide_eq_false hq]
    have hlen : (l.take n).length = n := by rw [List.length_take]; omega
    have hpt : posL (l.take n) n = posL l n := pos_take (Nat.le_refl _)
    have hne : turnS (tailF f) a m ≠ tailF f := by
      intro e; apply hq; rw [← hT, e, ← hd]
    have hT2 : T = catF (l.take n) ++ (preF f ++ turnS (tailF f) a m) ++ catF (l.drop (n + 1)) := by rw [← hT]; simp only [app_assoc]
    have hnx := next_turned (catF (l.take n)) (catF (l.drop (n + 1))) f hfo.1 hfo.2.1 (by omega) a m (by omega) hne
    rw [← hT2, hA] at hnx
    have hch : Chain T (l.take n) := by
      rw [← hT]; simp only [app_assoc]
      exact chain_cat _ (fun f hf => hok f (List.mem_of_mem_take hf)) _
    have hall := F_allF T (by omega) (l.take n) hch (by rw [hlen, hpt, hnx]; simp)
    rw [hlen, hpt] at hall
    rw [hall]
    simp only [Option.bind_some, cond_false]
    rw [grd_t (by omega), lCut0, F_sameF _ _ (by omega) true (by simp), places_at l (by omega)]
    simp only [Option.bind_some, cond_true, beq_self_eq_true, ev_retracelaw04_live, F_retracelaw04_FrameBursts_J4]
    have hTn : T.size = (catF l).size := by
      rw [← hT]; conv => rhs; rw [hd]
      rw [size_app, size_app, size_app (catF (l.take n) ++ preF f ++ tailF f), size_app (catF (l.take n) ++ preF f), hts]
    unfold endE
    rw [hlen, hpt, if_neg (by rw [hTn]; omega), hnx]; rfl
end Go.Ab
