/- WireReads and WireNone, plainly. -/
import Derived.Test.YtdcgabaobopjpaaPWire2
namespace Go.Ab
set_option linter.unusedVariables false

theorem F_sameI (a b : List Int) (hl : a.length < 1000000000) (d : Bool) (hd : d = true ↔ a = b) : F_retraceref03_Same a b = some d := by
  unfold F_retraceref03_Same
  by_cases h : a.length = b.length
  · have : (((a.length : Int)) != ((b.length : Int))) = false := by simp; omega
    rw [this, cond_false]
    refine Loop_same a b h (fun x y => (x == y)) (fun x y => by simp) (by omega) (fun k x y hx hy => ?_) ?_ d hd
    · have hk := lt_of_getL hx
      show F_retraceref03_Same_L1 a b (k : Int) = _
      unfold F_retraceref03_Same_L1
      rw [lAtn, lAtn, hx, hy, dct (by omega), cond_true]
      simp only [Option.bind_some, bne]
      cases (x == y) <;> rfl
    · show F_retraceref03_Same_L1 a b (a.length : Int) = _
      unfold F_retraceref03_Same_L1
      simp
  · have : (((a.length : Int)) != ((b.length : Int))) = true := by simp; omega
    rw [this, cond_true]
    cases d with
    | false => rfl
    | true => have := hd.1 rfl; subst this; exact absurd rfl h

theorem rInt_size (r : RD) : (rInt r).2.s.size ≤ r.s.size ∧ (r.e = 0 → (rInt r).2.e = 0 → (rInt r).2.s.size < r.s.size) := rNum_size r
theorem rMany_bad {r : RD} (h : r.e ≠ 0) (n : Nat) : rMany n r = ([], r) := by
  cases n with
  | zero => rfl
  | succ n => exact if_pos h
theorem rMany_len : ∀ (n : Nat) (r : RD), (rMany n r).1.length ≤ r.s.size + 1 ∧ (rMany n r).2.s.size ≤ r.s.size
  | 0, r => ⟨Nat.zero_le _, Nat.le_refl _⟩
  | n + 1, r => by
    unfold rMany
    split
    · exact ⟨Nat.zero_le _, Nat.le_refl _⟩
    · rename_i h
      have h1 := rInt_size r
      obtain ⟨h2, h3⟩ := rMany_len n (rInt r).2
      by_cases he : (rInt r).2.e = 0
      · have := h1.2 (by simpa using h) he
        exact ⟨by simp only [List.length_cons]; omega, by show (rMany n (rInt r).2).2.s.size ≤ _; omega⟩
      · rw [rMany_bad he]
        exact ⟨by simp, h1.1⟩
theorem many_prog (y : Int × RD) : ∀ (n : Nat) (r : RD) (out : List Int), (out.length : Int) + n = y.1 → out.length + r.s.size ≤ 1000000 → out.length ≤ 1000001 → r.s.size ≤ 1000000 → (r.e = 0 ∨ True) →
    Loop (fun s : (ByteArray × Int × (List Int)) => F_wire_Reader_Ints_L2 y s.1 s.2.1 s.2.2) (r.s, r.e, out) = some (if (rMany n r).2.e ≠ 0 then [] else out ++ (rMany n r).1, (rMany n r).2) := by
  have fin : ∀ (r : RD) (out : List Int), F_wire_Reader_Ints_J1 r.s r.e out false = some (.inr (if r.e ≠ 0 then [] else out, r)) := by
    intro r out
    unfold F_wire_Reader_Ints_J1 F_wire_Reader_Err
    rw [cond_false]
    simp only [Option.bind_some]
    by_cases h : r.e = 0
    · rw [show (r.e != 0) = false by simp [h], cond_false, if_neg (by simpa using h)]; rfl
    · rw [show (r.e != 0) = true by simpa using h, cond_true, if_pos h]; rfl
  intro n
  induction n with
  | zero =>
    intro r out hn hb hb2 hb3 _
    refine Loop_inr ?_
    show F_wire_Reader_Ints_L2 y r.s r.e out = _
    unfold F_wire_Reader_Ints_L2
    rw [dcf (by omega), cond_false, fin]
    simp [rMany]
  | succ n ih =>
    intro r out hn hb hb2 hb3 _
    by_cases he : r.e = 0
    · have hs := rInt_size r
      have step : F_wire_Reader_Ints_L2 y r.s r.e out = some (.inl ((rInt r).2.s, (rInt r).2.e, out ++ [(rInt r).1])) := by
        unfold F_wire_Reader_Ints_L2 F_wire_Reader_Err F_wire_Reader_Ints_J1
        rw [dct (by omega), cond_true]
        simp only [Option.bind_some]
        rw [beqt he, cond_true, F_rInt ⟨r.s, r.e⟩ (by show r.s.size ≤ _; omega)]
        simp only [Option.bind_some]
        rw [grd_t (by simp; omega)]
      rw [Loop_inl (step := fun s : (ByteArray × Int × (List Int)) => F_wire_Reader_Ints_L2 y s.1 s.2.1 s.2.2) (s := (r.s, r.e, out)) step]
      by_cases he2 : (rInt r).2.e = 0
      · have hlt := hs.2 he he2
        rw [ih (rInt r).2 (out ++ [(rInt r).1]) (by simp; omega) (by simp; omega) (by simp; omega) (by omega) (.inr trivial)]
        have e : rMany (n + 1) r = ((rInt r).1 :: (rMany n (rInt r).2).1, (rMany n (rInt r).2).2) := if_neg (by simpa using he)
        rw [e]
        simp
      · have e : rMany (n + 1) r = ((rInt r).1 :: (rMany n (rInt r).2).1, (rMany n (rInt r).2).2) := if_neg (by simpa using he)
        rw [e, rMany_bad he2]
        refine Loop_inr ?_
        show F_wire_Reader_Ints_L2 y (rInt r).2.s (rInt r).2.e (out ++ [(rInt r).1]) = _
        unfold F_wire_Reader_Ints_L2 F_wire_Reader_Err
        simp only [Option.bind_some]
        rw [beqf he2, fin, if_pos he2]
        cases decide (((out ++ [(rInt r).1]).length : Int) < y.1) <;> rfl
    · rw [rMany_bad he]
      refine Loop_inr ?_
      show F_wire_Reader_Ints_L2 y r.s r.e out = _
      unfold F_wire_Reader_Ints_L2 F_wire_Reader_Err
      simp only [Option.bind_some]
      simp only [ne_eq, he, not_false_eq_true, if_true]
      rw [beqf he, fin, if_pos he]
      cases decide ((out.length : Int) < y.1) <;> rfl
theorem many_ref (y : Int × T_retraceref03_Reader) : ∀ (n : Nat) (r : RD) (out : List Int), (out.length : Int) + n = y.1 → out.length + r.s.size ≤ 1000000 → out.length ≤ 1000001 → r.s.size ≤ 1000000 → (r.e = 0 ∨ True) →
    Loop (fun s : (Int × ByteArray × Int × (List Int)) => F_retraceref03_Reader_Ints_L2 y s.1 s.2.1 s.2.2.1 s.2.2.2) ((out.length : Int), r.s, r.e, out) = some (if (rMany n r).2.e ≠ 0 then [] else out ++ (rMany n r).1, rr (rMany n r).2) := by
  have fin : ∀ (r : RD) (i : Int) (out : List Int), F_retraceref03_Reader_Ints_J1 i r.s r.e out false = some (.inr (if r.e ≠ 0 then [] else out, rr r)) := by
    intro r i out
    unfold F_retraceref03_Reader_Ints_J1
    rw [cond_false]
    by_cases h : r.e = 0
    · rw [show (r.e != 0) = false by simp [h], cond_false, if_neg (by simpa using h)]; rfl
    · rw [show (r.e != 0) = true by simpa using h, cond_true, if_pos h]; rfl
  intro n
  induction n with
  | zero =>
    intro r out hn hb hb2 hb3 _
    refine Loop_inr ?_
    show F_retraceref03_Reader_Ints_L2 y (out.length : Int) r.s r.e out = _
    unfold F_retraceref03_Reader_Ints_L2
    rw [dcf (by omega), cond_false, fin]
    simp [rMany]
  | succ n ih =>
    intro r out hn hb hb2 hb3 _
    by_cases he : r.e = 0
    · have hs := rInt_size r
      have step : F_retraceref03_Reader_Ints_L2 y (out.length : Int) r.s r.e out = some (.inl (((out ++ [(rInt r).1]).length : Int), (rInt r).2.s, (rInt r).2.e, out ++ [(rInt r).1])) := by
        unfold F_retraceref03_Reader_Ints_L2 F_retraceref03_Reader_Ints_J1
        rw [dct (by omega), cond_true, beqt he, cond_true, show (⟨r.s, r.e⟩ : T_retraceref03_Reader) = rr r from rfl, F_rIntR r (by omega)]
        simp only [Option.bind_some]
        rw [grd_t (by simp; omega), w64s (by omega)]
        simp [rr]
      rw [Loop_inl (step := fun s : (Int × ByteArray × Int × (List Int)) => F_retraceref03_Reader_Ints_L2 y s.1 s.2.1 s.2.2.1 s.2.2.2) (s := ((out.length : Int), r.s, r.e, out)) step]
      by_cases he2 : (rInt r).2.e = 0
      · have hlt := hs.2 he he2
        rw [ih (rInt r).2 (out ++ [(rInt r).1]) (by simp; omega) (by simp; omega) (by simp; omega) (by omega) (.inr trivial)]
        have e : rMany (n + 1) r = ((rInt r).1 :: (rMany n (rInt r).2).1, (rMany n (rInt r).2).2) := if_neg (by simpa using he)
        rw [e]
        simp
      · have e : rMany (n + 1) r = ((rInt r).1 :: (rMany n (rInt r).2).1, (rMany n (rInt r).2).2) := if_neg (by simpa using he)
        rw [e, rMany_bad he2]
        refine Loop_inr ?_
        show F_retraceref03_Reader_Ints_L2 y ((out ++ [(rInt r).1]).length : Int) (rInt r).2.s (rInt r).2.e (out ++ [(rInt r).1]) = _
        unfold F_retraceref03_Reader_Ints_L2
        rw [beqf he2, fin, if_pos he2]
        cases decide (((out ++ [(rInt r).1]).length : Int) < y.1) <;> rfl
    · rw [rMany_bad he]
      refine Loop_inr ?_
      show F_retraceref03_Reader_Ints_L2 y (out.length : Int) r.s r.e out = _
      unfold F_retraceref03_Reader_Ints_L2
      simp only [ne_eq, he, not_false_eq_true, if_true]
      rw [beqf he, fin, if_pos he]
      cases decide ((out.length : Int) < y.1) <;> rfl
theorem F_rInts (m : Int) (hm : -9223372036854775808 ≤ m ∧ m ≤ 9223372036854775807) (r : RD) (hs : r.s.size ≤ 900000) : F_wire_Reader_Ints m r = some (rInts m r) := by
  unfold F_wire_Reader_Ints rInts
  rw [F_rUpto m hm r (by omega)]
  simp only [Option.bind_some]
  have hu := rUpto_ok m hm.2 r
  have := many_prog (rUpto m r) (rUpto m r).1.toNat (rUpto m r).2 [] (by simp; omega) (by simp; omega) (by simp) (by omega) (.inr trivial)
  simpa using this
theorem F_rIntsR (m : Int) (hm : -9223372036854775808 ≤ m ∧ m ≤ 9223372036854775807) (r : RD) (hs : r.s.size ≤ 900000) : F_retraceref03_Reader_Ints m (rr r) = some ((rInts m r).1, rr (rInts m r).2) := by
  unfold F_retraceref03_Reader_Ints rInts
  rw [F_rUptoR m hm r (by omega)]
  simp only [Option.bind_some]
  have hu := rUpto_ok m hm.2 r
  have := many_ref ((rUpto m r).1, rr (rUpto m r).2) (rUpto m r).1.toNat (rUpto m r).2 [] (by simp; omega) (by simp; omega) (by simp) (by omega) (.inr trivial)
  simpa [rr] using this
theorem rInts_len (m : Int) (hm : m ≤ 9223372036854775807) (r : RD) : (rInts m r).1.length ≤ r.s.size + 1 ∧ (rInts m r).2.s.size ≤ r.s.size := by
  have h1 := rUpto_ok m hm r
  have h2 := rMany_len (rUpto m r).1.toNat (rUpto m r).2
  unfold rInts
  refine ⟨?_, by show (rMany _ _).2.s.size ≤ _; omega⟩
  show (if _ then [] else _ : List Int).length ≤ _
  split
  · simp
  · omega
theorem F_rFail (e : Int) (r : RD) : F_wire_Reader_Fail e r = some (rFail e r) := by
  unfold F_wire_Reader_Fail F_wire_Reader_step_v6 rFail F_wire_Reader_Fail_1
  by_cases h : r.e = 0
  · rw [show (r.e != 0) = false by simp [h], cond_false, if_neg (by simpa using h)]
    simp only [Option.bind_some]
    by_cases h1 : e = 0
    · subst h1
      simp only [bne_self_eq_false, cond_false]
      rw [grd_t (by omega)]
      simp only [Option.bind_some, Int.toNat_zero, Int.toNat_natCast, h]
      have : r.s.extract 0 r.s.size = r.s := by apply sB_inj; rw [sB_cut, List.drop_zero, List.take_of_length_le (by rw [sB_len]; omega)]
      rw [this]
    · rw [show (e != 0) = true by simpa using h1, cond_true]; rfl
  · rw [show (r.e != 0) = true by simpa using h, cond_true, if_pos h]; rfl
theorem F_rFailR (e : Int) (r : RD) : F_retraceref03_Reader_Fail e (rr r) = some (rr (rFail e r)) := by
  unfold F_retraceref03_Reader_Fail F_retraceref03_Reader_fail rFail rr
  simp only []
  by_cases h : r.e = 0
  · rw [beqt h, cond_true, if_neg (by simpa using h)]
    first | done | rfl
  · rw [beqf h, cond_false, if_pos h]
    first | done | rfl

/-- What a read makes of a reader. -/
def readV (p : T_retracelaw03_Part) (r : RD) : RD :=
  if p.Kind = 0 then (rNum r).2 else if p.Kind = 1 then (rInt r).2 else if p.Kind = 2 then (rBool r).2 else if p.Kind = 3 then (rText p.N r).2 else if p.Kind = 4 then (rRaw p.N r).2 else if p.Kind = 5 then (rInts p.N r).2 else if p.Kind = 6 then (rUpto p.N r).2 else if 0 ≤ p.N ∧ p.N ≤ 18 then rFail p.N r else r
theorem F_read (p : T_retracelaw03_Part) (hp : okP p) (r : RD) (hs : r.s.size ≤ 900000) : F_retracelaw03_read p r (rr r) = some (true, readV p r, rr (readV p r)) := by
  obtain ⟨_, hn, _⟩ := hp
  unfold F_retracelaw03_read readV
  by_cases k0 : p.Kind = 0
  · rw [beqt k0, cond_true, if_pos k0, F_rNum r (by omega), F_rNumR r (by omega)]; simp
  rw [beqf k0, cond_false, if_neg k0]
  by_cases k1 : p.Kind = 1
  · rw [beqt k1, cond_true, if_pos k1, F_rInt r (by omega), F_rIntR r (by omega)]; simp
  rw [beqf k1, cond_false, if_neg k1]
  by_cases k2 : p.Kind = 2
  · rw [beqt k2, cond_true, if_pos k2, F_rBool r, F_rBoolR r]; simp
  rw [beqf k2, cond_false, if_neg k2]
  by_cases k3 : p.Kind = 3
  · rw [beqt k3, cond_true, if_pos k3, F_rText _ hn r (by omega), F_rTextR _ hn r (by omega)]; simp
  rw [beqf k3, cond_false, if_neg k3]
  by_cases k4 : p.Kind = 4
  · rw [beqt k4, cond_true, if_pos k4, F_rRaw, F_rRawR]; simp
  rw [beqf k4, cond_false, if_neg k4]
  by_cases k5 : p.Kind = 5
  · have := rInts_len p.N hn.2 r
    rw [beqt k5, cond_true, if_pos k5, F_rInts _ hn r (by omega), F_rIntsR _ hn r (by omega)]
    simp only [Option.bind_some]
    rw [F_sameI _ _ (by omega) true (by simp)]; rfl
  rw [beqf k5, cond_false, if_neg k5]
  by_cases k6 : p.Kind = 6
  · rw [beqt k6, cond_true, if_pos k6, F_rUpto _ hn r (by omega), F_rUptoR _ hn r (by omega)]; simp
  rw [beqf k6, cond_false, if_neg k6]
  unfold F_retracelaw03_read_J2 F_retracelaw03_read_J1
  by_cases h1 : 0 ≤ p.N
  · rw [dct h1, cond_true]
    by_cases h2 : p.N ≤ 18
    · rw [dct h2, if_pos ⟨h1, h2⟩, cond_true, F_rFail, F_rFailR]; rfl
    · rw [dcf h2, if_neg (by omega), cond_false]
  · rw [dcf h1, cond_false, if_neg (by omega), cond_false]
theorem rText_size (m : Int) (hm : m ≤ 9223372036854775807) (r : RD) : (rText m r).2.s.size ≤ r.s.size := by
  have h1 := (rUpto_ok m hm r).2.2
  have : ∀ n (q : RD), (rRaw n q).2.s.size ≤ q.s.size := by
    intro n q; unfold rRaw
    split
    · exact Nat.le_refl _
    split
    · exact Nat.le_refl _
    split
    · exact Nat.le_refl _
    · rename_i a b; have := rest_size q.s n (by omega) (by omega); show (restB _ _).size ≤ _; omega
  exact Nat.le_trans (this _ _) h1
theorem readV_size (p : T_retracelaw03_Part) (hn : p.N ≤ 9223372036854775807) (r : RD) : (readV p r).s.size ≤ r.s.size := by
  unfold readV
  split
  · exact (rNum_size r).1
  split
  · exact (rNum_size r).1
  split
  · unfold rBool
    split
    · exact Nat.le_refl _
    split
    · exact Nat.le_refl _
    split
    · exact Nat.le_refl _
    · have := rest_size r.s 1 (by omega) (by omega); show (restB _ _).size ≤ _; omega
  split
  · exact rText_size _ hn r
  split
  · unfold rRaw
    split
    · exact Nat.le_refl _
    split
    · exact Nat.le_refl _
    split
    · exact Nat.le_refl _
    · rename_i a b; have := rest_size r.s p.N (by omega) (by omega); show (restB _ _).size ≤ _; omega
  split
  · exact (rInts_len _ hn r).2
  split
  · exact (rUpto_ok _ hn r).2.2
  split
  · unfold rFail; split <;> exact Nat.le_refl _
  · exact Nat.le_refl _
def endV (r : RD) : Int := if r.e ≠ 0 ∨ r.s.size = 0 then r.e else 3
theorem F_rEnd (r : RD) : F_wire_Reader_End r = some (endV r) := by
  unfold F_wire_Reader_End F_wire_Reader_End_J1 F_wire_Reader_Err F_wire_Reader_Left endV
  simp only [Option.bind_some]
  by_cases h : r.e = 0
  · rw [show (r.e != 0) = false by simp [h], cond_false]
    by_cases h1 : r.s.size = 0
    · rw [beqt (by omega), cond_true, if_pos (.inr h1)]
    · rw [beqf (by omega), cond_false, if_neg (by simp [h, h1])]
  · rw [show (r.e != 0) = true by simpa using h, cond_true, cond_true, if_pos (.inl h)]
theorem F_rEndR (r : RD) : F_retraceref03_Reader_End (rr r) = some (endV r) := by
  unfold F_retraceref03_Reader_End F_retraceref03_Reader_End_J1 endV rr
  simp only []
  by_cases h : r.e = 0
  · rw [beqt h, cond_true]
    by_cases h1 : r.s.size = 0
    · rw [dcf (by omega), cond_false, if_pos (.inr h1)]
    · rw [dct (by omega), cond_true, if_neg (by simp [h, h1])]
  · rw [beqf h, cond_false, cond_false, if_pos (.inl h)]
def readsV (l : List T_retracelaw03_Part) (r : RD) : RD := l.foldl (fun r p => readV p r) r
theorem law_wreads (s : ByteArray) (l : List T_retracelaw03_Part) (hp : ∀ p ∈ l, okP p) : F_retracelaw03_WireReads s l = some true := by
  have hbig : F_retracelaw03_WireReads_J1 s l true = some true := by
    unfold F_retracelaw03_WireReads_J1; rw [cond_true, ev_retracelaw03_live]; rfl
  unfold F_retracelaw03_WireReads
  by_cases h0 : 600 < (s.size : Int)
  · rw [dct h0, cond_true, hbig]
  rw [dcf h0, cond_false]
  obtain ⟨r, hr, hr2⟩ := F_longP l
  rw [hr]
  simp only [Option.bind_some]
  cases r with
  | true => exact hbig
  | false =>
    obtain ⟨h40, hs⟩ := hr2 rfl
    unfold F_retracelaw03_WireReads_J1 F_wire_Open
    rw [cond_false]
    simp only [Option.bind_some]
    have hsz : ∀ k, k ≤ l.length → (readsV (l.take k) ⟨s, 0⟩).s.size ≤ s.size := by
      intro k
      induction k with
      | zero => intro _; exact Nat.le_refl _
      | succ k ih =>
        intro h
        have := ih (by omega)
        unfold readsV at *
        rw [take_snoc (by omega), List.foldl_append]
        have h2 := readV_size (l[k]'(by omega)) (hp _ (List.getElem_mem (by omega))).2.1.2 ((l.take k).foldl (fun r p => readV p r) ⟨s, 0⟩)
        simp only [List.foldl_cons, List.foldl_nil]; omega
    have := Loop_nat (step := fun q : (Int × ByteArray × Int × ByteArray × Int) => F_retracelaw03_WireReads_L4 l q.1 q.2.1 q.2.2.1 q.2.2.2.1 q.2.2.2.2) (fun k => ((k : Int), (readsV (l.take k) ⟨s, 0⟩).s, (readsV (l.take k) ⟨s, 0⟩).e, (readsV (l.take k) ⟨s, 0⟩).s, (readsV (l.take k) ⟨s, 0⟩).e)) l.length (r := true) (fun k hk => ?_) ?_
    · exact this
    · show F_retracelaw03_WireReads_L4 l (k : Int) _ _ _ _ = _
      unfold F_retracelaw03_WireReads_L4
      rw [dct (by omega), cond_true, lAt_lt hk]
      simp only [Option.bind_some]
      have hsk := hsz k (by omega)
      have hrd := F_read _ (hp _ (List.getElem_mem hk)) (readsV (l.take k) ⟨s, 0⟩) (by omega)
      rw [show F_retracelaw03_read l[k] ⟨(readsV (l.take k) ⟨s, 0⟩).s, (readsV (l.take k) ⟨s, 0⟩).e⟩ ⟨(readsV (l.take k) ⟨s, 0⟩).s, (readsV (l.take k) ⟨s, 0⟩).e⟩ = _ from hrd]
      simp only [Option.bind_some, Bool.not_true, cond_false, F_wire_Reader_Left, F_wire_Reader_Err, rr, bne_self_eq_false, F_retracelaw03_WireReads_J2]
      rw [w64s (by omega)]
      have e : readsV (l.take (k + 1)) ⟨s, 0⟩ = readV l[k] (readsV (l.take k) ⟨s, 0⟩) := by
        unfold readsV; rw [take_snoc hk, List.foldl_append]; rfl
      rw [e]
    · show F_retracelaw03_WireReads_L4 l (l.length : Int) _ _ _ _ = _
      unfold F_retracelaw03_WireReads_L4
      rw [dcf (by omega), cond_false]
      have h1 := F_rEnd (readsV (l.take l.length) ⟨s, 0⟩)
      have h2 := F_rEndR (readsV (l.take l.length) ⟨s, 0⟩)
      rw [show F_wire_Reader_End ⟨(readsV (l.take l.length) ⟨s, 0⟩).s, (readsV (l.take l.length) ⟨s, 0⟩).e⟩ = _ from h1, show F_retraceref03_Reader_End ⟨(readsV (l.take l.length) ⟨s, 0⟩).s, (readsV (l.take l.length) ⟨s, 0⟩).e⟩ = _ from h2]
      simp [ev_retracelaw03_live, F_retracelaw03_WireReads_J3]

theorem F_longP2 (l : List T_retracelaw03_Part) : ∃ r, F_retracelaw03_long_v2 l = some r := by
  unfold F_retracelaw03_long_v2
  have : ∃ r, Loop (fun s : Int => F_retracelaw03_long_v2_L3 l s) 0 = some r ∧ True := by
    refine Loop_ex (fun s => ∃ k : Nat, s = (k : Int) ∧ k ≤ l.length ∧ k ≤ 40) (fun s => l.length - s.toNat) _ (fun s hs => ?_) 0 ⟨0, rfl, Nat.zero_le _, by omega⟩
    obtain ⟨k, rfl, hk, h20⟩ := hs
    show (∃ s', F_retracelaw03_long_v2_L3 l (k : Int) = _ ∧ _) ∨ ∃ r, F_retracelaw03_long_v2_L3 l (k : Int) = _ ∧ _
    unfold F_retracelaw03_long_v2_L3
    have stop : F_retracelaw03_long_v2_J1 l (k : Int) false = some (.inr (decide (40 < (l.length : Int)))) := by
      unfold F_retracelaw03_long_v2_J1; rw [cond_false]; rfl
    by_cases h1 : k < l.length
    · rw [dct (by omega), cond_true]
      by_cases h2 : k < 40
      · rw [dct (by omega)]
        unfold F_retracelaw03_long_v2_J1
        rw [cond_true, lAt_lt h1]
        simp only [Option.bind_some, F_retracelaw03_long_v2_J2]
        by_cases h3 : 200 < ((l[k]'h1).S.size : Int)
        · right; rw [dct h3, cond_true]; exact ⟨true, rfl, trivial⟩
        · rw [dcf h3, cond_false]
          by_cases h4 : 60 < ((l[k]'h1).L.length : Int)
          · right; rw [dct h4]; exact ⟨true, rfl, trivial⟩
          · left; rw [dcf h4, w64s (by omega)]
            exact ⟨_, rfl, ⟨k + 1, rfl, by omega, by omega⟩, by simp; omega⟩
      · right; rw [dcf (by omega), stop]; exact ⟨_, rfl, trivial⟩
    · right; rw [dcf (by omega), cond_false, stop]; exact ⟨_, rfl, trivial⟩
  obtain ⟨r, hr, _⟩ := this
  exact ⟨r, hr⟩
theorem readV_bad (p : T_retracelaw03_Part) (r : RD) (h : r.e ≠ 0) : readV p r = r := by
  have h1 : rNum r = (0, r) := rNum_bad h
  have h2 : ∀ m, rUpto m r = (0, r) := fun m => if_pos h
  have h3 : ∀ n, rRaw n r = (⟨#[]⟩, r) := fun n => if_pos h
  have h4 : rBool r = (false, r) := if_pos h
  have h5 : ∀ e, rFail e r = r := fun e => if_pos h
  unfold readV rInt rText rInts
  simp only [h1, h2, h3, h4, h5, rMany_bad h]
  repeat' split
  all_goals rfl
theorem F_read2 (p : T_retracelaw03_Part) (hp : okP p) : F_retracelaw03_read_v2 p ⟨⟨#[]⟩, 9⟩ = some (true, ⟨⟨#[]⟩, 9⟩) := by
  obtain ⟨_, hn, _⟩ := hp
  have hb : (⟨⟨#[]⟩, 9⟩ : RD).e ≠ 0 := by decide
  have hz : (⟨⟨#[]⟩, 9⟩ : RD).s.size ≤ 900000 := by decide
  have q0 := F_rNumR ⟨⟨#[]⟩, 9⟩ (by decide)
  have q1 := F_rIntR ⟨⟨#[]⟩, 9⟩ (by decide)
  have q2 := F_rBoolR ⟨⟨#[]⟩, 9⟩
  have q3 := F_rTextR p.N hn ⟨⟨#[]⟩, 9⟩ (by decide)
  have q4 := F_rRawR p.N ⟨⟨#[]⟩, 9⟩
  have q5 := F_rIntsR p.N hn ⟨⟨#[]⟩, 9⟩ hz
  have q6 := F_rUptoR p.N hn ⟨⟨#[]⟩, 9⟩ (by decide)
  have q7 := F_rFailR p.N ⟨⟨#[]⟩, 9⟩
  have h1 : rNum ⟨⟨#[]⟩, 9⟩ = (0, ⟨⟨#[]⟩, 9⟩) := rNum_bad hb
  have h2 : ∀ m, rUpto m ⟨⟨#[]⟩, 9⟩ = (0, ⟨⟨#[]⟩, 9⟩) := fun m => if_pos hb
  have h3 : ∀ n, rRaw n ⟨⟨#[]⟩, 9⟩ = (⟨#[]⟩, ⟨⟨#[]⟩, 9⟩) := fun n => if_pos hb
  have h4 : rBool ⟨⟨#[]⟩, 9⟩ = (false, ⟨⟨#[]⟩, 9⟩) := if_pos hb
  have h5 : ∀ e, rFail e ⟨⟨#[]⟩, 9⟩ = ⟨⟨#[]⟩, 9⟩ := fun e => if_pos hb
  have h6 : rInts p.N ⟨⟨#[]⟩, 9⟩ = ([], ⟨⟨#[]⟩, 9⟩) := by unfold rInts; simp only [h2, rMany_bad hb]; rfl
  rw [h1] at q0
  rw [show rInt ⟨⟨#[]⟩, 9⟩ = (0, ⟨⟨#[]⟩, 9⟩) by unfold rInt; rw [h1]; rfl] at q1
  rw [h4] at q2
  rw [show rText p.N ⟨⟨#[]⟩, 9⟩ = (⟨#[]⟩, ⟨⟨#[]⟩, 9⟩) by unfold rText; rw [h2, h3]] at q3
  rw [h3] at q4; rw [h6] at q5; rw [h2] at q6; rw [h5] at q7
  simp only [rr] at q0 q1 q2 q3 q4 q5 q6 q7
  have i5 : F_wire_Reader_Ints_v2 p.N = some [] := by
    unfold F_wire_Reader_Ints_v2 F_wire_Reader_Upto_v2 F_wire_Reader_step_v10
    simp only [Option.bind_some, Bool.not_false, cond_true]
    refine Loop_inr ?_
    show F_wire_Reader_Ints_v2_L2 0 [] = _
    unfold F_wire_Reader_Ints_v2_L2 F_wire_Reader_Ints_v2_J1 F_wire_Reader_Err_v2
    simp
  unfold F_retracelaw03_read_v2
  by_cases k0 : p.Kind = 0
  · rw [beqt k0, cond_true, q0]; rfl
  rw [beqf k0, cond_false]
  by_cases k1 : p.Kind = 1
  · rw [beqt k1, cond_true, q1]; rfl
  rw [beqf k1, cond_false]
  by_cases k2 : p.Kind = 2
  · rw [beqt k2, cond_true, q2]; rfl
  rw [beqf k2, cond_false]
  by_cases k3 : p.Kind = 3
  · rw [beqt k3, cond_true, q3]
    simp [F_wire_Reader_Text_v2, F_wire_Reader_Upto_v2, F_wire_Reader_step_v10, F_wire_Reader_Raw_v2, F_wire_Reader_step_v11]
  rw [beqf k3, cond_false]
  by_cases k4 : p.Kind = 4
  · rw [beqt k4, cond_true, q4]
    simp [F_wire_Reader_Raw_v2, F_wire_Reader_step_v11]
  rw [beqf k4, cond_false]
  by_cases k5 : p.Kind = 5
  · rw [beqt k5, cond_true, q5, i5]
    simp only [Option.bind_some]
    rw [F_sameI [] [] (by simp) true (by simp)]; rfl
  rw [beqf k5, cond_false]
  by_cases k6 : p.Kind = 6
  · rw [beqt k6, cond_true, q6]; rfl
  rw [beqf k6, cond_false]
  unfold F_retracelaw03_read_v2_J2 F_retracelaw03_read_v2_J1
  by_cases g1 : 0 ≤ p.N
  · rw [dct g1, cond_true]
    by_cases g2 : p.N ≤ 18
    · rw [dct g2, cond_true, q7]; rfl
    · rw [dcf g2, cond_false]
  · rw [dcf g1, cond_false, cond_false]
theorem law_wnone (s : ByteArray) (p q : T_retracelaw03_Part) (hp : okP p) (hq : okP q) : F_retracelaw03_WireNone s p q = some true := by
  have hbig : F_retracelaw03_WireNone_J1 s p q true = some true := by
    unfold F_retracelaw03_WireNone_J1; rw [cond_true, ev_retracelaw03_live]; rfl
  unfold F_retracelaw03_WireNone
  by_cases h0 : 600 < (s.size : Int)
  · rw [dct h0, cond_true, hbig]
  rw [dcf h0, cond_false]
  obtain ⟨r, hr⟩ := F_longP2 [p, q]
  rw [hr]
  simp only [Option.bind_some]
  cases r with
  | true => exact hbig
  | false =>
    unfold F_retracelaw03_WireNone_J1
    rw [cond_false, F_read2 p hp]
    simp only [Option.bind_some, Bool.not_true, cond_false, F_wire_Reader_Left_v2, F_wire_Reader_Err_v2, F_wire_Reader_End_v2, F_wire_Reader_End_v2_J1, bne_self_eq_false]
    rw [show ((9 : Int) != 0) = true from rfl, cond_true]
    simp only [cond_true, Option.bind_some, bne_self_eq_false]
    unfold F_retracelaw03_WireNone_J2 F_wire_Open
    rw [cond_false]
    simp only [Option.bind_some]
    rw [F_rFail, show rFail 12 ⟨s, 0⟩ = ⟨s, 12⟩ from if_neg (by simp)]
    simp only [Option.bind_some]
    have hb : (⟨s, 12⟩ : RD).e ≠ 0 := by show (12 : Int) ≠ 0; decide
    have r1 := F_read p hp ⟨s, 12⟩ (by show s.size ≤ _; omega)
    have r2 := F_read q hq ⟨s, 12⟩ (by show s.size ≤ _; omega)
    rw [readV_bad _ _ hb] at r1 r2
    simp only [rr] at r1 r2
    rw [r1]
    simp only [Option.bind_some, cond_true]
    rw [r2]
    simp only [Option.bind_some, cond_true, F_wire_Reader_Left, F_wire_Reader_Err, beq_self_eq_true]
    rw [F_rEnd]
    simp only [Option.bind_some]
    rw [show endV ⟨s, 12⟩ = 12 from if_pos (.inl hb), ev_retracelaw03_live]
    rfl
end Go.Ab
