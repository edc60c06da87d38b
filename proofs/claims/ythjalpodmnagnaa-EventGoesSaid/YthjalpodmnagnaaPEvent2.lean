/- Events' bytes, there and back. -/
import Derived.Test.YthjalpodmnagnaaPEvent
namespace Go.Ab
set_option linter.unusedVariables false
theorem sB_rest (s : ByteArray) (n : Int) (h0 : 0 ≤ n) : sB (restB s n) = (sB s).drop n.toNat := by
  unfold restB
  rw [sB_cut, List.take_of_length_le (by rw [sB_len]; exact Nat.le_refl _)]
/-- a number that was read stood there -/
theorem rNum_back {r : RD} (h : r.e = 0) (h' : (rNum r).2.e = 0) : sB r.s = numL (rNum r).1 ++ sB (rNum r).2.s := by
  have hc : (getV r.s 0).2.2 = 0 := by
    cases hd : decide ((getV r.s 0).2.2 = 0) with
    | true => exact of_decide_eq_true hd
    | false => rw [rNum_err h (of_decide_eq_false hd)] at h'; exact h'
  rw [rNum_ok h hc]
  have e : getV r.s 0 = ((getV r.s 0).1, (getV r.s 0).2.1, 0) := Prod.ext rfl (Prod.ext rfl hc)
  obtain ⟨a, ha, h1, h2, h3, h4, h5⟩ := getV_ok e
  have ha0 : a = 0 := by omega
  subst ha0
  show sB r.s = numL (getV r.s 0).1 ++ sB (restB r.s (getV r.s 0).2.1)
  rw [sB_rest _ _ (by omega), h4, Nat.zero_add, Int.toNat_natCast]
  rw [List.drop_zero] at h5
  conv => lhs; rw [← List.take_append_drop (numL (getV r.s 0).1).length (sB r.s)]
  rw [h5]
theorem rNum_fwd {r : RD} (h : r.e = 0) {u : Int} (h0 : 0 ≤ u) (h1 : u ≤ 18446744073709551615) {rest : List Int} (hs : sB r.s = numL u ++ rest) : ∃ r' : RD, rNum r = (u, r') ∧ r'.e = 0 ∧ sB r'.s = rest := by
  have e := getV_fwd r.s 0 u rest h0 h1 (by rw [List.drop_zero]; exact hs)
  have e' : getV r.s 0 = (u, ((0 + (numL u).length : Nat) : Int), 0) := e
  refine ⟨⟨restB r.s (getV r.s 0).2.1, 0⟩, ?_, rfl, ?_⟩
  · rw [rNum_ok h (by rw [e']), e']
  · rw [e']
    show sB (restB r.s ((0 + (numL u).length : Nat) : Int)) = rest
    rw [sB_rest _ _ (by omega), hs, Nat.zero_add, Int.toNat_natCast, List.drop_left]
theorem rInt_back {r : RD} (h : r.e = 0) (h' : (rInt r).2.e = 0) : sB r.s = intL (rInt r).1 ++ sB (rInt r).2.s := by
  have := rNum_back h h'
  unfold intL rInt
  simp only
  rw [zig_zag _ (rNum_rng r).1]
  exact this
theorem rInt_fwd {r : RD} (h : r.e = 0) {n : Int} (h0 : -9223372036854775808 ≤ n) (h1 : n ≤ 9223372036854775807) {rest : List Int} (hs : sB r.s = intL n ++ rest) : ∃ r' : RD, rInt r = (n, r') ∧ r'.e = 0 ∧ sB r'.s = rest := by
  obtain ⟨a, b⟩ := zigN_rng h0 h1
  obtain ⟨r', e, e1, e2⟩ := rNum_fwd h a b hs
  refine ⟨r', ?_, e1, e2⟩
  unfold rInt
  rw [e, zag_zig]
theorem rInt_rng (r : RD) : -9223372036854775808 ≤ (rInt r).1 ∧ (rInt r).1 ≤ 9223372036854775807 := by
  obtain ⟨a, b⟩ := rNum_rng r
  exact ⟨zag_lo _ a b, zag_hi _ a b⟩
theorem rInt_bad {r : RD} (h : r.e ≠ 0) : rInt r = (0, r) := by
  unfold rInt; rw [rNum_bad h, zag0]
def evL (x : Ev) : List Int := intL x.Kind ++ intL x.N
def evsL (l : List Ev) : List Int := numL l.length ++ l.flatMap evL
def evMany : Nat → RD → List Ev × RD
  | 0, r => ([], r)
  | n + 1, r => if r.e ≠ 0 then ([], r) else (⟨(rInt r).1, (rInt (rInt r).2).1⟩ :: (evMany n (rInt (rInt r).2).2).1, (evMany n (rInt (rInt r).2).2).2)
theorem evMany_bad {r : RD} (h : r.e ≠ 0) (n : Nat) : evMany n r = ([], r) := by
  cases n with
  | zero => rfl
  | succ n => exact if_pos h
theorem evMany_len : ∀ (n : Nat) (r : RD), (evMany n r).1.length ≤ r.s.size + 1 ∧ (evMany n r).2.s.size ≤ r.s.size
  | 0, r => ⟨Nat.zero_le _, Nat.le_refl _⟩
  | n + 1, r => by
    unfold evMany
    split
    · exact ⟨Nat.zero_le _, Nat.le_refl _⟩
    · rename_i h
      have h1 := rInt_size r
      have h1' := rInt_size (rInt r).2
      obtain ⟨h2, h3⟩ := evMany_len n (rInt (rInt r).2).2
      by_cases he : (rInt (rInt r).2).2.e = 0
      · have he1 : (rInt r).2.e = 0 := by
          cases hd : decide ((rInt r).2.e = 0) with
          | true => exact of_decide_eq_true hd
          | false => rw [rInt_bad (of_decide_eq_false hd)] at he; exact he
        have := h1.2 (by simpa using h) he1
        exact ⟨by simp only [List.length_cons]; omega, by show (evMany n (rInt (rInt r).2).2).2.s.size ≤ _; omega⟩
      · rw [evMany_bad he]
        exact ⟨by simp, by show (rInt (rInt r).2).2.s.size ≤ _; omega⟩
def getEv (s : ByteArray) : List Ev × Int :=
  if endV (evMany (rUpto 65536 ⟨s, 0⟩).1.toNat (rUpto 65536 ⟨s, 0⟩).2).2 ≠ 0 then ([], endV (evMany (rUpto 65536 ⟨s, 0⟩).1.toNat (rUpto 65536 ⟨s, 0⟩).2).2)
  else if (chk (evMany (rUpto 65536 ⟨s, 0⟩).1.toNat (rUpto 65536 ⟨s, 0⟩).2).1).2 ≠ 0 then ([], (chk (evMany (rUpto 65536 ⟨s, 0⟩).1.toNat (rUpto 65536 ⟨s, 0⟩).2).1).2)
  else ((evMany (rUpto 65536 ⟨s, 0⟩).1.toNat (rUpto 65536 ⟨s, 0⟩).2).1, 0)
theorem get_prog (y : Int × RD) (R : List Ev × Int) : ∀ (n : Nat) (r : RD) (out : List Ev), (out.length : Int) + n = y.1 → out.length + r.s.size ≤ 20000 → out.length ≤ 30000 → r.s.size ≤ 20000 →
    R = (if endV (evMany n r).2 ≠ 0 then ([], endV (evMany n r).2) else if (chk (out ++ (evMany n r).1)).2 ≠ 0 then ([], (chk (out ++ (evMany n r).1)).2) else (out ++ (evMany n r).1, 0)) →
    Loop (fun s : (ByteArray × Int × (List Ev)) => F_event_Get_L2 y s.1 s.2.1 s.2.2) (r.s, r.e, out) = some R := by
  have fin : ∀ (r : RD) (out : List Ev), out.length ≤ 40000 → F_event_Get_J1 r.s r.e out false = some (.inr (if endV r ≠ 0 then ([], endV r) else if (chk out).2 ≠ 0 then ([], (chk out).2) else (out, 0))) := by
    intro r out ho
    unfold F_event_Get_J1
    have he : F_wire_Reader_End ⟨r.s, r.e⟩ = some (endV r) := F_rEnd r
    rw [cond_false, he, check_eq out (by omega)]
    simp only [Option.bind_some, bne]
    by_cases h : endV r = 0
    · rw [beqt h, if_neg (fun q => q h)]
      by_cases h2 : (chk out).2 = 0
      · rw [beqt h2, if_neg (fun q => q h2)]; rfl
      · rw [beqf h2, if_pos h2]; rfl
    · rw [beqf h, if_pos h]; rfl
  intro n
  induction n with
  | zero =>
    intro r out hn hb hb2 hb3 hR
    refine Loop_inr ?_
    show F_event_Get_L2 y r.s r.e out = _
    unfold F_event_Get_L2
    rw [dcf (by omega), cond_false, fin r out (by omega), hR]
    simp [evMany]
  | succ n ih =>
    intro r out hn hb hb2 hb3 hR
    by_cases he : r.e = 0
    · have hs := rInt_size r
      have hs2 := rInt_size (rInt r).2
      have step : F_event_Get_L2 y r.s r.e out = some (.inl ((rInt (rInt r).2).2.s, (rInt (rInt r).2).2.e, out ++ [⟨(rInt r).1, (rInt (rInt r).2).1⟩])) := by
        unfold F_event_Get_L2 F_wire_Reader_Err F_event_Get_J1
        rw [dct (by omega), cond_true]
        simp only [Option.bind_some]
        rw [beqt he, cond_true, F_rInt ⟨r.s, r.e⟩ (by show r.s.size ≤ _; omega)]
        simp only [Option.bind_some]
        rw [F_rInt (rInt r).2 (by omega)]
        simp only [Option.bind_some]
        rw [grd_t (by simp only [List.length_cons, List.length_nil]; omega)]
      rw [Loop_inl (step := fun s : (ByteArray × Int × (List Ev)) => F_event_Get_L2 y s.1 s.2.1 s.2.2) (s := (r.s, r.e, out)) step]
      have e : evMany (n + 1) r = (⟨(rInt r).1, (rInt (rInt r).2).1⟩ :: (evMany n (rInt (rInt r).2).2).1, (evMany n (rInt (rInt r).2).2).2) := if_neg (by simpa using he)
      rw [e] at hR
      by_cases he2 : (rInt (rInt r).2).2.e = 0
      · have he1 : (rInt r).2.e = 0 := by
          cases hd : decide ((rInt r).2.e = 0) with
          | true => exact of_decide_eq_true hd
          | false => rw [rInt_bad (of_decide_eq_false hd)] at he2; exact he2
        have hlt := hs.2 he he1
        refine ih (rInt (rInt r).2).2 (out ++ [⟨(rInt r).1, (rInt (rInt r).2).1⟩]) (by simp; omega) (by simp; omega) (by simp; omega) (by omega) ?_
        rw [hR, List.append_assoc]; rfl
      · rw [evMany_bad he2] at hR
        refine Loop_inr ?_
        show F_event_Get_L2 y (rInt (rInt r).2).2.s (rInt (rInt r).2).2.e (out ++ [⟨(rInt r).1, (rInt (rInt r).2).1⟩]) = _
        unfold F_event_Get_L2 F_wire_Reader_Err
        simp only [Option.bind_some]
        rw [beqf he2, fin _ _ (by simp; omega), hR]
        cases decide (((out ++ [(⟨(rInt r).1, (rInt (rInt r).2).1⟩ : Ev)]).length : Int) < y.1) <;> rfl
    · rw [evMany_bad he] at hR
      refine Loop_inr ?_
      show F_event_Get_L2 y r.s r.e out = _
      unfold F_event_Get_L2 F_wire_Reader_Err
      simp only [Option.bind_some]
      rw [beqf he, fin _ _ (by omega), hR, List.append_nil]
      cases decide ((out.length : Int) < y.1) <;> rfl
theorem get_ref (y : Int × T_retraceref03_Reader) (R : T_retraceref31_Got) : ∀ (n : Nat) (r : RD) (out : List Ev), (out.length : Int) + n = y.1 → out.length + r.s.size ≤ 20000 → out.length ≤ 30000 → r.s.size ≤ 20000 →
    R = (if endV (evMany n r).2 ≠ 0 then ⟨[], endV (evMany n r).2⟩ else if (chk (out ++ (evMany n r).1)).2 ≠ 0 then ⟨[], (chk (out ++ (evMany n r).1)).2⟩ else ⟨out ++ (evMany n r).1, 0⟩) →
    Loop (fun s : (Int × ByteArray × Int × (List Ev)) => F_retraceref31_Get_L2 y s.1 s.2.1 s.2.2.1 s.2.2.2) ((out.length : Int), r.s, r.e, out) = some R := by
  have fin : ∀ (i : Int) (r : RD) (out : List Ev), out.length ≤ 40000 → F_retraceref31_Get_J1 i r.s r.e out false = some (.inr (if endV r ≠ 0 then ⟨[], endV r⟩ else if (chk out).2 ≠ 0 then ⟨[], (chk out).2⟩ else ⟨out, 0⟩)) := by
    intro i r out ho
    unfold F_retraceref31_Get_J1
    have he : F_retraceref03_Reader_End ⟨r.s, r.e⟩ = some (endV r) := F_rEndR r
    rw [cond_false, he, rcheck_eq out (by omega)]
    simp only [Option.bind_some, bne]
    have a1 : ∀ a b : Int, aAt 2 [a, b] 1 = some b := fun _ _ => rfl
    by_cases h : endV r = 0
    · rw [beqt h, if_neg (fun q => q h), Bool.not_true, cond_false, grd_t ⟨rfl, by simp⟩]
      simp only [a1, Option.bind_some]
      by_cases h2 : (chk out).2 = 0
      · rw [beqt h2, if_neg (fun q => q h2)]; rfl
      · rw [beqf h2, if_pos h2]; rfl
    · rw [beqf h, if_pos h]; rfl
  have stop : ∀ (r : RD) (out : List Ev), r.e ≠ 0 → out.length ≤ 40000 → R = (if endV r ≠ 0 then ⟨[], endV r⟩ else if (chk out).2 ≠ 0 then ⟨[], (chk out).2⟩ else ⟨out, 0⟩) →
      Loop (fun s : (Int × ByteArray × Int × (List Ev)) => F_retraceref31_Get_L2 y s.1 s.2.1 s.2.2.1 s.2.2.2) ((out.length : Int), r.s, r.e, out) = some R := by
    intro r out he ho hR
    refine Loop_inr ?_
    show F_retraceref31_Get_L2 y (out.length : Int) r.s r.e out = _
    unfold F_retraceref31_Get_L2
    rw [beqf he, Bool.cond_self, fin (out.length : Int) r out ho, hR]
  intro n
  induction n with
  | zero =>
    intro r out hn hb hb2 hb3 hR
    refine Loop_inr ?_
    show F_retraceref31_Get_L2 y (out.length : Int) r.s r.e out = _
    unfold F_retraceref31_Get_L2
    rw [dcf (by omega), cond_false, fin _ r out (by omega), hR]
    simp [evMany]
  | succ n ih =>
    intro r out hn hb hb2 hb3 hR
    by_cases he : r.e = 0
    · have hs := rInt_size r
      have hs2 := rInt_size (rInt r).2
      have step : F_retraceref31_Get_L2 y (out.length : Int) r.s r.e out = some (.inl (((out ++ [(⟨(rInt r).1, (rInt (rInt r).2).1⟩ : Ev)]).length : Int), (rInt (rInt r).2).2.s, (rInt (rInt r).2).2.e, out ++ [⟨(rInt r).1, (rInt (rInt r).2).1⟩])) := by
        unfold F_retraceref31_Get_L2 F_retraceref31_Get_J1
        have h1 : F_retraceref03_Reader_Int ⟨r.s, r.e⟩ = some ((rInt r).1, rr (rInt r).2) := F_rIntR r (by omega)
        rw [dct (by omega), cond_true, beqt he, cond_true, h1]
        simp only [Option.bind_some]
        rw [F_rIntR (rInt r).2 (by omega)]
        simp only [Option.bind_some]
        rw [grd_t (by simp only [List.length_cons, List.length_nil]; omega), w64i (by omega) (by omega)]
        simp only [List.length_append, List.length_cons, List.length_nil]
        rfl
      rw [Loop_inl (step := fun s : (Int × ByteArray × Int × (List Ev)) => F_retraceref31_Get_L2 y s.1 s.2.1 s.2.2.1 s.2.2.2) (s := ((out.length : Int), r.s, r.e, out)) step]
      have e : evMany (n + 1) r = (⟨(rInt r).1, (rInt (rInt r).2).1⟩ :: (evMany n (rInt (rInt r).2).2).1, (evMany n (rInt (rInt r).2).2).2) := if_neg (by simpa using he)
      rw [e] at hR
      by_cases he2 : (rInt (rInt r).2).2.e = 0
      · have he1 : (rInt r).2.e = 0 := by
          cases hd : decide ((rInt r).2.e = 0) with
          | true => exact of_decide_eq_true hd
          | false => rw [rInt_bad (of_decide_eq_false hd)] at he2; exact he2
        have hlt := hs.2 he he1
        refine ih (rInt (rInt r).2).2 (out ++ [⟨(rInt r).1, (rInt (rInt r).2).1⟩]) (by simp; omega) (by simp; omega) (by simp; omega) (by omega) ?_
        rw [hR, List.append_assoc]; rfl
      · rw [evMany_bad he2] at hR
        exact stop (rInt (rInt r).2).2 (out ++ [⟨(rInt r).1, (rInt (rInt r).2).1⟩]) he2 (by simp; omega) hR
    · rw [evMany_bad he, List.append_nil] at hR
      exact stop r out he (by omega) hR
theorem get_eq (s : ByteArray) (hs : s.size ≤ 10000) : F_event_Get s = some (getEv s) ∧ F_retraceref31_Get s = some ⟨(getEv s).1, (getEv s).2⟩ := by
  obtain ⟨u1, u2, u3⟩ := rUpto_ok 65536 (by omega) ⟨s, 0⟩
  replace u3 : (rUpto 65536 ⟨s, 0⟩).2.s.size ≤ s.size := u3
  constructor
  · unfold F_event_Get F_wire_Open
    simp only [Option.bind_some]
    rw [F_rUpto 65536 (by omega) ⟨s, 0⟩ (by show s.size ≤ _; omega)]
    simp only [Option.bind_some]
    exact get_prog _ _ (rUpto 65536 ⟨s, 0⟩).1.toNat (rUpto 65536 ⟨s, 0⟩).2 [] (by simp; omega) (by simp; omega) (by simp) (by omega) rfl
  · unfold F_retraceref31_Get
    have e : F_retraceref03_Reader_Upto 65536 ⟨s, 0⟩ = some ((rUpto 65536 ⟨s, 0⟩).1, rr (rUpto 65536 ⟨s, 0⟩).2) := F_rUptoR 65536 (by omega) ⟨s, 0⟩ (by show s.size ≤ _; omega)
    rw [e]
    simp only [Option.bind_some]
    refine get_ref _ _ (rUpto 65536 ⟨s, 0⟩).1.toNat (rUpto 65536 ⟨s, 0⟩).2 [] (by simp; omega) (by simp; omega) (by simp) (by omega) ?_
    unfold getEv
    simp only [List.nil_append]
    split
    · rfl
    · split <;> rfl
theorem sameE_eq (a b : List Ev) (hl : a.length < 1000000000) (d : Bool) (hd : d = true ↔ a = b) : F_retraceref27_Same a b = some d := by
  unfold F_retraceref27_Same
  by_cases h : a.length = b.length
  · have : (((a.length : Int)) != ((b.length : Int))) = false := by simp; omega
    rw [this, cond_false]
    refine Loop_same a b h (fun x y => ((x.Kind == y.Kind) && ((x.N == y.N) && true))) (fun x y => ?_) (by omega) (fun k x y hx hy => ?_) ?_ d hd
    · cases x; cases y; simp
    · have hk := (List.getElem?_eq_some_iff.mp hx).1
      show F_retraceref27_Same_L1 a b (k : Int) = _
      unfold F_retraceref27_Same_L1
      rw [lAtn, lAtn, hx, hy, dct (by omega), cond_true]
      simp only [Option.bind_some]
      cases ((x.Kind == y.Kind) && ((x.N == y.N) && true)) <;> rfl
    · show F_retraceref27_Same_L1 a b (a.length : Int) = _
      unfold F_retraceref27_Same_L1
      simp
  · have : (((a.length : Int)) != ((b.length : Int))) = true := by simp; omega
    rw [this, cond_true]
    cases d with
    | false => rfl
    | true => have := hd.1 rfl; subst this; exact absurd rfl h
def okEvs (l : List Ev) : Prop := ∀ x ∈ l, (-9223372036854775808 ≤ x.Kind ∧ x.Kind ≤ 9223372036854775807) ∧ (-9223372036854775808 ≤ x.N ∧ x.N ≤ 9223372036854775807)
theorem evL_len (x : Ev) : (evL x).length ≤ 20 := by
  have := intL_len x.Kind
  have := intL_len x.N
  unfold evL; rw [List.length_append]; omega
theorem evs_flat (l : List Ev) : (l.flatMap evL).length ≤ 20 * l.length := by
  induction l with
  | nil => simp
  | cons a l ih =>
    have := evL_len a
    simp only [List.flatMap_cons, List.length_append, List.length_cons]; omega
theorem put_eq (l : List Ev) (hl : l.length ≤ 30000) (hk : okEvs l) : F_event_Put l = some (strOfNums (evsL l)) := by
  unfold F_event_Put
  rw [wu64_of (by omega) (by omega), F_wnum (by omega) (by omega) [] (by simp)]
  simp only [Option.bind_some]
  have e := Loop_nat (step := fun s : (Int × (List Int)) => F_event_Put_L1 l s.1 s.2) (fun k => ((k : Int), numL l.length ++ (l.take k).flatMap evL)) l.length (r := strOfNums (evsL l)) (fun k hk' => ?_) ?_
  · simpa using e
  · show F_event_Put_L1 l (k : Int) _ = _
    have h1 := evs_flat (l.take k)
    have h2 := (numL_len (l.length : Int)).1
    rw [List.length_take] at h1
    have hm := hk _ (List.getElem_mem hk')
    have h3 := intL_len (l[k]'hk').Kind
    unfold F_event_Put_L1
    rw [dct (by omega), lAt_lt hk', take_snoc hk']
    simp only [cond_true, Option.bind_some]
    rw [F_wint hm.1.1 hm.1.2 _ (by rw [List.length_append]; omega)]
    simp only [Option.bind_some]
    rw [F_wint hm.2.1 hm.2.2 _ (by rw [List.length_append, List.length_append]; omega)]
    simp only [Option.bind_some]
    rw [w64s (by omega), List.flatMap_append]
    simp [evL]
  · show F_event_Put_L1 l (l.length : Int) _ = _
    unfold F_event_Put_L1 F_wire_Writer_Bytes evsL
    rw [dcf (by omega), List.take_length]; rfl
theorem rput_eq (l : List Ev) (hl : l.length ≤ 30000) (hk : okEvs l) : F_retraceref31_Put l = some (strOfNums (evsL l)) := by
  unfold F_retraceref31_Put
  rw [wu64_of (by omega) (by omega), F_num (by omega) (by omega)]
  simp only [Option.bind_some]
  have e := Loop_nat (step := fun s : (ByteArray × Int) => F_retraceref31_Put_L1 l s.1 s.2) (fun k => (strOfNums (numL l.length ++ (l.take k).flatMap evL), (k : Int))) l.length (r := strOfNums (evsL l)) (fun k hk' => ?_) ?_
  · simpa using e
  · show F_retraceref31_Put_L1 l _ (k : Int) = _
    have h1 := evs_flat (l.take k)
    have h2 := (numL_len (l.length : Int)).1
    rw [List.length_take] at h1
    have hm := hk _ (List.getElem_mem hk')
    have h3 := intL_len (l[k]'hk').Kind
    have h4 := intL_len (l[k]'hk').N
    unfold F_retraceref31_Put_L1
    rw [dct (by omega), lAt_lt hk', take_snoc hk']
    simp only [cond_true, Option.bind_some]
    rw [F_rint hm.1.1 hm.1.2, F_rint hm.2.1 hm.2.2]
    simp only [Option.bind_some]
    rw [grd_t (by rw [num_size, num_size, List.length_append]; omega), ← num_app, grd_t (by rw [num_size, num_size, List.length_append, List.length_append]; omega), ← num_app, w64s (by omega), List.flatMap_append]
    simp [evL]
  · show F_retraceref31_Put_L1 l _ (l.length : Int) = _
    unfold F_retraceref31_Put_L1 evsL
    rw [dcf (by omega), List.take_length]; rfl
theorem evMany_back : ∀ (n : Nat) (r : RD), (evMany n r).2.e = 0 → (evMany n r).1.length = n ∧ sB r.s = (evMany n r).1.flatMap evL ++ sB (evMany n r).2.s ∧ okEvs (evMany n r).1
  | 0, r, h => ⟨rfl, by simp [evMany], by intro x hx; cases hx⟩
  | n + 1, r, h => by
    by_cases he : r.e = 0
    · have e : evMany (n + 1) r = (⟨(rInt r).1, (rInt (rInt r).2).1⟩ :: (evMany n (rInt (rInt r).2).2).1, (evMany n (rInt (rInt r).2).2).2) := if_neg (by simpa using he)
      rw [e] at h ⊢
      replace h : (evMany n (rInt (rInt r).2).2).2.e = 0 := h
      have he2 : (rInt (rInt r).2).2.e = 0 := by
        cases hd : decide ((rInt (rInt r).2).2.e = 0) with
        | true => exact of_decide_eq_true hd
        | false => rw [evMany_bad (of_decide_eq_false hd)] at h; exact h
      have he1 : (rInt r).2.e = 0 := by
        cases hd : decide ((rInt r).2.e = 0) with
        | true => exact of_decide_eq_true hd
        | false => rw [rInt_bad (of_decide_eq_false hd)] at he2; exact he2
      obtain ⟨i1, i2, i3⟩ := evMany_back n _ h
      refine ⟨by simp [i1], ?_, ?_⟩
      · rw [rInt_back he he1, rInt_back he1 he2, i2]
        simp [evL]
      · intro x hx
        rcases List.mem_cons.1 hx with hx | hx
        · rw [hx]; exact ⟨rInt_rng r, rInt_rng _⟩
        · exact i3 x hx
    · rw [evMany_bad he] at h; exact absurd h he
theorem evMany_fwd : ∀ (l : List Ev) (r : RD) (rest : List Int), okEvs l → r.e = 0 → sB r.s = l.flatMap evL ++ rest → ∃ r' : RD, evMany l.length r = (l, r') ∧ r'.e = 0 ∧ sB r'.s = rest
  | [], r, rest, _, h, hs => ⟨r, rfl, h, by simpa using hs⟩
  | x :: l, r, rest, hk, h, hs => by
    obtain ⟨k1, k2⟩ := hk x (List.mem_cons_self ..)
    obtain ⟨r1, e1, h1, s1⟩ := rInt_fwd h k1.1 k1.2 (rest := intL x.N ++ (l.flatMap evL ++ rest)) (by rw [hs]; simp [evL])
    obtain ⟨r2, e2, h2, s2⟩ := rInt_fwd h1 k2.1 k2.2 s1
    obtain ⟨r3, e3, h3, s3⟩ := evMany_fwd l r2 rest (fun y hy => hk y (List.mem_cons_of_mem _ hy)) h2 s2
    refine ⟨r3, ?_, h3, s3⟩
    show evMany (l.length + 1) r = _
    unfold evMany
    rw [if_neg (by simpa using h), e1]
    simp only
    rw [e2]
    simp only
    rw [e3]
theorem rUpto_fwd {m u : Int} {r : RD} (h : r.e = 0) (h0 : 0 ≤ u) (h1 : u ≤ m) (hm : m ≤ 9223372036854775807) {rest : List Int} (hs : sB r.s = numL u ++ rest) : ∃ r' : RD, rUpto m r = (u, r') ∧ r'.e = 0 ∧ sB r'.s = rest := by
  have e := getV_fwd r.s 0 u rest h0 (by omega) (by rw [List.drop_zero]; exact hs)
  have e' : getV r.s 0 = (u, ((0 + (numL u).length : Nat) : Int), 0) := e
  refine ⟨⟨restB r.s (getV r.s 0).2.1, 0⟩, ?_, rfl, ?_⟩
  · unfold rUpto
    rw [if_neg (by simpa using h), if_neg (by rw [e']; simp), if_neg (by rw [e']; simp only; omega), e']
  · rw [e']
    show sB (restB r.s ((0 + (numL u).length : Nat) : Int)) = rest
    rw [sB_rest _ _ (by omega), hs, Nat.zero_add, Int.toNat_natCast, List.drop_left]
theorem rUpto_back {m : Int} {r : RD} (h : r.e = 0) (h' : (rUpto m r).2.e = 0) : sB r.s = numL (rUpto m r).1 ++ sB (rUpto m r).2.s ∧ 0 ≤ (rUpto m r).1 ∧ (rUpto m r).1 ≤ m := by
  unfold rUpto at h' ⊢
  rw [if_neg (by simpa using h)] at h' ⊢
  split at h'
  · rename_i hc; exact absurd h' hc
  · rename_i hc
    have hc : (getV r.s 0).2.2 = 0 := by omega
    rw [if_neg (by omega)]
    split at h'
    · cases h'
    · rename_i hm
      rw [if_neg hm]
      have e : getV r.s 0 = ((getV r.s 0).1, (getV r.s 0).2.1, 0) := Prod.ext rfl (Prod.ext rfl hc)
      obtain ⟨a, ha, h1, h2, h3, h4, h5⟩ := getV_ok e
      have ha0 : a = 0 := by omega
      subst ha0
      refine ⟨?_, h2, by simp only; omega⟩
      show sB r.s = numL (getV r.s 0).1 ++ sB (restB r.s (getV r.s 0).2.1)
      rw [sB_rest _ _ (by omega), h4, Nat.zero_add, Int.toNat_natCast]
      rw [List.drop_zero] at h5
      conv => lhs; rw [← List.take_append_drop (numL (getV r.s 0).1).length (sB r.s)]
      rw [h5]
theorem endV_0 {r : RD} (h : endV r = 0) : r.e = 0 ∧ r.s.size = 0 := by
  unfold endV at h
  split at h
  · rename_i q
    exact ⟨h, q.resolve_left (fun x => x h)⟩
  · cases h
theorem law_egets (s : ByteArray) : F_retracelaw31_EventGets s = some true := by
  unfold F_retracelaw31_EventGets
  by_cases hs : 600 < (s.size : Int)
  · rw [dct hs, ev_retracelaw31_live]; rfl
  obtain ⟨e1, e2⟩ := get_eq s (by omega)
  rw [dcf hs, cond_false, e1, e2]
  simp only [Option.bind_some]
  have hlen : (getEv s).1.length ≤ 700 := by
    obtain ⟨u1, u2, u3⟩ := rUpto_ok 65536 (by omega) ⟨s, 0⟩
    replace u3 : (rUpto 65536 ⟨s, 0⟩).2.s.size ≤ s.size := u3
    have := (evMany_len (rUpto 65536 ⟨s, 0⟩).1.toNat (rUpto 65536 ⟨s, 0⟩).2).1
    unfold getEv
    split
    · simp
    · split
      · simp
      · show (evMany _ _).1.length ≤ 700; omega
  rw [sameE_eq _ _ (by omega) true (by simp)]
  simp only [Option.bind_some, Bool.not_true, cond_false, bne, beq_self_eq_true]
  unfold F_retracelaw31_EventGets_J1 F_retracelaw31_EventGets_J2
  rw [ev_retracelaw31_live, cond_false]
  by_cases h0 : (getEv s).2 = 0
  · simp only [bne, beqt h0, Bool.not_true, cond_false]
    have key : okEvs (getEv s).1 ∧ sB s = evsL (getEv s).1 := by
      generalize hu : rUpto 65536 ⟨s, 0⟩ = u at *
      have hg : getEv s = (if endV (evMany u.1.toNat u.2).2 ≠ 0 then ([], endV (evMany u.1.toNat u.2).2) else if (chk (evMany u.1.toNat u.2).1).2 ≠ 0 then ([], (chk (evMany u.1.toNat u.2).1).2) else ((evMany u.1.toNat u.2).1, 0)) := by
        unfold getEv; rw [hu]
      rw [hg] at h0 ⊢
      by_cases q1 : endV (evMany u.1.toNat u.2).2 = 0
      · rw [if_neg (fun x => x q1)] at h0 ⊢
        by_cases q2 : (chk (evMany u.1.toNat u.2).1).2 = 0
        · rw [if_neg (fun x => x q2)]
          obtain ⟨z1, z2⟩ := endV_0 q1
          obtain ⟨b1, b2, b3⟩ := evMany_back _ _ z1
          have hue : u.2.e = 0 := by
            cases hd : decide (u.2.e = 0) with
            | true => exact of_decide_eq_true hd
            | false => rw [evMany_bad (of_decide_eq_false hd)] at z1; exact z1
          have hb := rUpto_back (m := 65536) (r := ⟨s, 0⟩) rfl (by rw [hu]; exact hue)
          rw [hu] at hb
          obtain ⟨c1, c2, c3⟩ := hb
          refine ⟨b3, ?_⟩
          have hz : sB (evMany u.1.toNat u.2).2.s = [] := List.length_eq_zero_iff.mp (by rw [sB_len]; exact z2)
          unfold evsL
          simp only
          rw [show sB s = sB (⟨s, 0⟩ : RD).s from rfl, c1, b2, hz, List.append_nil, b1, Int.toNat_of_nonneg c2]
        · rw [if_pos q2] at h0; exact absurd h0 q2
      · rw [if_pos q1] at h0; exact absurd h0 q1
    rw [put_eq _ (by omega) key.1]
    simp only [Option.bind_some]
    rw [← key.2, num_sB]
    simp
  · simp only [bne, beqf h0, Bool.not_false, cond_true]
    rfl
theorem evsL_mem (l : List Ev) (hl : l.length ≤ 30000) (hk : okEvs l) : ∀ x ∈ evsL l, 0 ≤ x ∧ x ≤ 255 := by
  intro x hx
  unfold evsL at hx
  rcases List.mem_append.1 hx with h | h
  · exact numL_mem (by omega) (by omega) x h
  · obtain ⟨y, hy, h⟩ := List.mem_flatMap.1 h
    obtain ⟨k1, k2⟩ := hk y hy
    unfold evL at h
    rcases List.mem_append.1 h with h | h
    · exact numL_mem (zigN_rng k1.1 k1.2).1 (zigN_rng k1.1 k1.2).2 x h
    · exact numL_mem (zigN_rng k2.1 k2.2).1 (zigN_rng k2.1 k2.2).2 x h
theorem chk_cases (l : List Ev) : chk l = (0, 0) ∨ (chk l).2 = 3 := by
  unfold chk
  split
  · exact .inr rfl
  · exact .inl rfl
theorem right_eq (l : List Ev) (hl : l.length ≤ 65536) : F_retraceref31_Right l = some (decide ((chk l).2 = 0)) := by
  unfold F_retraceref31_Right
  rw [rcheck_eq l hl]
  simp only [Option.bind_some]
  rw [grd_t ⟨rfl, rfl⟩]
  rcases chk_cases l with h | h
  · rw [h]; rfl
  · rw [dcf (by omega)]
    have : ¬ (chk l).2 = 0 := by omega
    simp [this]
theorem law_eback (l : List Ev) (hk : okEvs l) : F_retracelaw31_EventBack l = some true := by
  unfold F_retracelaw31_EventBack
  by_cases h : 300 < (l.length : Int)
  · rw [dct h, ev_retracelaw31_live]; rfl
  have hb := sB_num (evsL_mem l (by omega) hk)
  have hsz : (strOfNums (evsL l)).size ≤ 10000 := by
    have h1 := evs_flat l
    have h2 := (numL_len (l.length : Int)).1
    rw [num_size]; unfold evsL; rw [List.length_append]; omega
  obtain ⟨e1, _⟩ := get_eq (strOfNums (evsL l)) hsz
  have hg : getEv (strOfNums (evsL l)) = if (chk l).2 ≠ 0 then ([], (chk l).2) else (l, 0) := by
    obtain ⟨r1, u1, u2, u3⟩ := rUpto_fwd (m := 65536) (u := (l.length : Int)) (r := ⟨strOfNums (evsL l), 0⟩) rfl (by omega) (by omega) (by omega) (rest := l.flatMap evL) (by show sB (strOfNums (evsL l)) = _; rw [hb]; rfl)
    obtain ⟨r2, v1, v2, v3⟩ := evMany_fwd l r1 [] hk u2 (by rw [u3, List.append_nil])
    unfold getEv
    rw [u1]
    simp only [Int.toNat_natCast]
    rw [v1]
    have hz : r2.s.size = 0 := by rw [← sB_len, v3]; rfl
    have he : endV r2 = 0 := by unfold endV; rw [if_pos (.inr hz)]; exact v2
    simp only [he]
    rw [if_neg (by simp)]
  rw [dcf h, cond_false, put_eq l (by omega) hk]
  simp only [Option.bind_some]
  rw [e1, right_eq l (by omega), rput_eq l (by omega) hk, hg, ev_retracelaw31_live]
  simp only [Option.bind_some]
  unfold F_retracelaw31_EventBack_J1 F_retracelaw31_EventBack_J2
  by_cases hc : (chk l).2 = 0
  · rw [dct hc, if_neg (fun q => q hc), cond_true]
    simp only [beq_self_eq_true, cond_true]
    rw [sameE_eq l l (by omega) true (by simp)]
    rfl
  · rw [dcf hc, if_pos hc, cond_false]
    have h3 : (chk l).2 = 3 := by
      rcases chk_cases l with q | q
      · rw [q] at hc; exact absurd rfl hc
      · exact q
    simp [h3]
end Go.Ab
