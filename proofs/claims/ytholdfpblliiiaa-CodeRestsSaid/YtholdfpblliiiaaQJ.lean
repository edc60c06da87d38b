/- Where one rests in code that may be. -/
import Derived.Test.YtholdfpblliiiaaQI
namespace Go.Ab
set_option linter.unusedVariables false
set_option maxRecDepth 10000
theorem dfG_inc : ∀ (l : List T_api_Def) (n : Nat) (u : Int) (fin : Bool), scan (dfG n) (fun _ => fin) l u = true → (∀ (k : Nat) (d : T_api_Def), l[k]? = some d → u < d.Entry) ∧ (∀ (i j : Nat) (a b : T_api_Def), i < j → l[i]? = some a → l[j]? = some b → a.Entry < b.Entry) ∧ (u < 0 → ∀ d, l[0]? = some d → d.Entry = 0)
  | [], n, u, fin, h => ⟨fun k d hd => by simp at hd, fun i j a b _ ha => by simp at ha, fun _ d hd => by simp at hd⟩
  | x :: l, n, u, fin, h => by
    simp only [scan, dfG] at h
    split at h
    · rename_i s' hs
      split at hs
      · rename_i hc
        cases hs
        obtain ⟨a1, a2, a3⟩ := dfG_inc l n _ fin h
        refine ⟨fun k d hd => ?_, fun i j a b hij ha hb => ?_, fun hu d hd => ?_⟩
        · cases k with
          | zero => simp at hd; subst hd; exact hc.2.2.1
          | succ k => have := a1 k d (by simpa using hd); have := hc.2.2.1; omega
        · cases i with
          | zero =>
            simp at ha; subst ha
            cases j with
            | zero => omega
            | succ j => exact a1 j b (by simpa using hb)
          | succ i =>
            cases j with
            | zero => omega
            | succ j => exact a2 i j a b (by omega) (by simpa using ha) (by simpa using hb)
        · simp at hd; subst hd
          have := hc.2.1
          omega
      · cases hs
    · rename_i r hs
      split at hs
      · cases hs
      · cases hs; cases h
structure Inc (c : T_api_Code) : Prop where
  inc : ∀ (i j : Nat) (a b : T_api_Def), i < j → c.Defs[i]? = some a → c.Defs[j]? = some b → a.Entry < b.Entry
  zero : ∀ d, c.Defs[0]? = some d → d.Entry = 0
  some : 0 < c.Defs.length
theorem COk.inc {c : T_api_Code} (h : CSmall c) (k : COk c) : Inc c := by
  have ht := k.tab
  unfold F_retraceref20_tables F_retraceref20_tables_J1 at ht
  rw [dfR_loop c h.defs h.dn h.chans h.cn] at ht
  by_cases h1 : (c.Defs.length : Int) < 1
  · rw [dct h1] at ht; cases ht
  rw [dcf h1] at ht
  have key : scan (dfG c.Ins.length) (fun _ => scan chG (fun _ => true) c.Chans 0) c.Defs (-1) = true := by
    by_cases h2 : (32 : Int) < c.Defs.length
    · rw [dct h2] at ht; cases ht
    rw [dcf h2] at ht
    by_cases h3 : (65536 : Int) < c.Ins.length
    · rw [dct h3] at ht; cases ht
    rw [dcf h3] at ht
    by_cases h4 : c.Main < 0
    · rw [dct h4] at ht; cases ht
    rw [dcf h4] at ht
    by_cases h5 : (c.Defs.length : Int) ≤ c.Main
    · rw [dct h5] at ht; cases ht
    rw [dcf h5] at ht
    obtain ⟨y, ey, _⟩ := lAt_ok (l := c.Defs) (i := c.Main) (by omega) (by omega)
    simp only [cond_false, ey, Option.bind_some] at ht
    cases hq : (y.Params != 0) with
    | true => rw [hq] at ht; cases ht
    | false => rw [hq] at ht; exact Option.some.inj ht
  obtain ⟨a1, a2, a3⟩ := dfG_inc _ _ _ _ key
  exact ⟨a2, a3 (by omega), by omega⟩
/-- A place lies in a routine. -/
structure InR (c : T_api_Code) (r : Int) (d : T_api_Def) (T p : Int) : Prop where
  hd : lAt c.Defs r = some d
  hT : F_retraceref20_To c r = some T
  lo : d.Entry ≤ p
  hi : p < T
theorem To_le {c : T_api_Code} (h : CSmall c) (k : COk c) {r T : Int} {d : T_api_Def} (hd : lAt c.Defs r = some d) (hT : F_retraceref20_To c r = some T) : 0 ≤ r ∧ r < c.Defs.length ∧ 0 ≤ d.Entry ∧ T ≤ c.Ins.length := by
  obtain ⟨hr0, hr1⟩ := lAt_rng hd
  have hE := k.good d (lAt_mem hd)
  obtain ⟨T', hT', hTl⟩ := ok_To c h k.good r hr0 hr1
  rw [hT] at hT'; cases hT'
  exact ⟨hr0, hr1, hE.1, hTl⟩
theorem inR_routine {c : T_api_Code} (h : CSmall c) (k : COk c) {r T p : Int} {d : T_api_Def} (hp : InR c r d T p) : routine c p = r := by
  obtain ⟨hr0, hr1, hE0, hTl⟩ := To_le h k hp.hd hp.hT
  have hlo := hp.lo
  have hhi := hp.hi
  have hI := k.inc h
  have hd40 := h.defs
  obtain ⟨n, rfl⟩ := Int.eq_ofNat_of_zero_le hr0
  have hdn : c.Defs[n]? = some d := by have := hp.hd; rwa [lAtn] at this
  have above : ∀ (j : Nat) (b : T_api_Def), n < j → c.Defs[j]? = some b → p < b.Entry := by
    intro j b hj hb
    have hT := hp.hT
    unfold F_retraceref20_To at hT
    have hjl := (List.getElem?_eq_some_iff.mp hb).1
    rw [w64i (by omega) (by omega), dct (by omega)] at hT
    rw [show ((n : Int) + 1) = ((n + 1 : Nat) : Int) by omega, lAtn, List.getElem?_eq_getElem (by omega)] at hT
    simp only [cond_true, Option.bind_some, Option.some.injEq] at hT
    rcases Nat.lt_or_ge (n + 1) j with h1 | h1
    · have := hI.inc (n + 1) j _ b h1 (List.getElem?_eq_getElem (by omega)) hb
      omega
    · have : j = n + 1 := by omega
      subst this
      rw [List.getElem?_eq_getElem hjl] at hb
      cases hb
      omega
  have bk : ∀ m, n < m → m ≤ c.Defs.length → back c p m = (n : Int) := by
    intro m
    induction m with
    | zero => intro h1; omega
    | succ m ih =>
      intro h1 h2
      simp only [back]
      rw [List.getElem?_eq_getElem (by omega)]
      simp only
      rcases Nat.lt_or_ge n m with h3 | h3
      · have := above m _ h3 (List.getElem?_eq_getElem (by omega))
        rw [if_neg (by omega)]
        exact ih h3 (by omega)
      · have : m = n := by omega
        subst this
        rw [List.getElem?_eq_getElem (by omega)] at hdn
        have e := Option.some.inj hdn
        rw [if_pos (by rw [e]; exact hlo)]
  unfold routine
  rw [if_pos ⟨by omega, by omega⟩]
  have := back_fold c p c.Defs.length (Nat.le_refl _)
  rw [List.take_of_length_le (by rw [List.length_zipIdx]; exact Nat.le_refl _)] at this
  rw [this]
  exact bk _ (by omega) (Nat.le_refl _)
theorem inR_ex {c : T_api_Code} (h : CSmall c) (k : COk c) {p : Int} (h0 : 0 ≤ p) (h1 : p < c.Ins.length) : ∃ r d T, InR c r d T p := by
  have hI := k.inc h
  have hd40 := h.defs
  have key : ∀ m, 0 < m → m ≤ c.Defs.length → ∃ n d, n < m ∧ c.Defs[n]? = some d ∧ d.Entry ≤ p ∧ ∀ (j : Nat) b, n < j → j < m → c.Defs[j]? = some b → p < b.Entry := by
    intro m
    induction m with
    | zero => intro h; omega
    | succ m ih =>
      intro _ hm
      have hg := List.getElem?_eq_getElem (show m < c.Defs.length by omega)
      by_cases he : (c.Defs[m]'(by omega)).Entry ≤ p
      · exact ⟨m, _, by omega, hg, he, fun j b a b' => by omega⟩
      · rcases Nat.eq_zero_or_pos m with hz | hz
        · subst hz
          have := hI.zero _ hg
          omega
        · obtain ⟨n, d, a1, a2, a3, a4⟩ := ih hz (by omega)
          refine ⟨n, d, by omega, a2, a3, fun j b b1 b2 b3 => ?_⟩
          rcases Nat.lt_or_ge j m with h5 | h5
          · exact a4 j b b1 h5 b3
          · have : j = m := by omega
            subst this
            rw [hg] at b3; cases b3
            omega
  obtain ⟨n, d, a1, a2, a3, a4⟩ := key _ hI.some (Nat.le_refl _)
  have hd : lAt c.Defs (n : Int) = some d := by rw [lAtn]; exact a2
  obtain ⟨T, hT, _⟩ := ok_To c h k.good (n : Int) (by omega) (by omega)
  refine ⟨n, d, T, hd, hT, a3, ?_⟩
  unfold F_retraceref20_To at hT
  rw [w64i (by omega) (by omega)] at hT
  by_cases hn : ((n : Int) + 1) < c.Defs.length
  · rw [dct hn, show ((n : Int) + 1) = ((n + 1 : Nat) : Int) by omega, lAtn, List.getElem?_eq_getElem (by omega)] at hT
    simp only [cond_true, Option.bind_some, Option.some.injEq] at hT
    have := a4 (n + 1) _ (by omega) (by omega) (List.getElem?_eq_getElem (by omega))
    omega
  · rw [dcf hn] at hT
    simp only [cond_false, Option.some.injEq] at hT
    omega
def NT (x : Option Bool) : Prop := ¬ x = some true
theorem NT.f : NT (some false) := fun h => by cases h
theorem NT.c {b : Bool} {x y : Option Bool} (h1 : NT x) (h2 : NT y) : NT (cond b x y) := by cases b; exact h2; exact h1
theorem NT.b {α : Type} {x : Option α} {f : α → Option Bool} (h : ∀ a, NT (f a)) : NT (x.bind f) := by
  cases x
  · exact fun h => by cases h
  · exact h _
/-- What is known where an instruction may be. -/
theorem may_true {c : T_api_Code} (h : CSmall c) (k : COk c) {r T p m : Int} {d : T_api_Def} (hp : InR c r d T p) {x : T_api_Ins} (hx : lAt c.Ins p = some x) (hm : F_retraceref20_may c r p m = some true) :
    F_retraceref16_Right x = some true ∧ (x.Op == 24) = (p == w64 (T - 1)) ∧ tailB c r p T d x = true := by
  obtain ⟨rb, hrb, _⟩ := ok_IRight x
  have tr := tail_r c h k.good r p T d hp.hd hp.hT x
  generalize tailB c r p T d x = tl at tr ⊢
  unfold F_retraceref20_may at hm
  simp only [hx, hp.hd, hp.hT, Option.bind_some, hrb] at hm
  have t1 : F_retraceref20_may_J1 c r p m x d T true = some false := rfl
  have key : tl = true := by
    cases tl with
    | true => rfl
    | false =>
      have j5 : ∀ b, NT (F_retraceref20_may_J5 c r p x d T b) := fun b => by rw [tr, Bool.and_false]; exact NT.f
      have j4 : ∀ b, NT (F_retraceref20_may_J4 c r p x d T b) := fun b => by
        unfold F_retraceref20_may_J4
        repeat' (first | exact NT.f | exact j5 _ | refine NT.c ?_ ?_ | refine NT.b fun _ => ?_)
      have j3 : ∀ b, NT (F_retraceref20_may_J3 c r p x d T b) := fun b => by
        unfold F_retraceref20_may_J3
        repeat' (first | exact NT.f | exact j4 _ | refine NT.c ?_ ?_ | refine NT.b fun _ => ?_)
      have j2 : ∀ b, NT (F_retraceref20_may_J2 c r p x d T b) := fun b => by
        unfold F_retraceref20_may_J2
        repeat' (first | exact NT.f | exact j3 _ | refine NT.c ?_ ?_ | refine NT.b fun _ => ?_)
      have j1 : ∀ b, NT (F_retraceref20_may_J1 c r p m x d T b) := fun b => by
        unfold F_retraceref20_may_J1
        repeat' (first | exact NT.f | exact j2 _ | refine NT.c ?_ ?_ | refine NT.b fun _ => ?_)
      refine absurd hm (?_ : NT _)
      repeat' (first | exact j1 _ | refine NT.c ?_ ?_)
  refine ⟨?_, ?_, key⟩
  · cases rb with
    | true => exact hrb
    | false => rw [t1] at hm; cases hm
  · simp only [bne] at hm
    cases h24 : (x.Op == 24) <;> cases hpt : (p == w64 (T - 1)) <;> rw [h24, hpt] at hm <;> first | rfl | (cases rb <;> (rw [t1] at hm; cases hm))
theorem COk.at {c : T_api_Code} (h : CSmall c) (k : COk c) {r T p : Int} {d : T_api_Def} (hp : InR c r d T p) : ∃ x, lAt c.Ins p = some x ∧ F_retraceref16_Right x = some true ∧ (x.Op == 24) = (p == w64 (T - 1)) ∧ tailB c r p T d x = true := by
  obtain ⟨hr0, hr1, hE0, hTl⟩ := To_le h k hp.hd hp.hT
  have hlo := hp.lo
  have hhi := hp.hi
  obtain ⟨x, hx, _⟩ := lAt_ok (l := c.Ins) (i := p) (by omega) (by omega)
  obtain ⟨m, hm⟩ := k.may r hr0 hr1 d T p hp.hd hp.hT hlo hhi
  exact ⟨x, hx, may_true h k hp hx hm⟩
/-- One rests: at a mark, or an end, of the routine. -/
theorem rests_get {c : T_api_Code} (h : CSmall c) {r T a : Int} {d : T_api_Def} (hd : lAt c.Defs r = some d) (hT : F_retraceref20_To c r = some T) (hr : (F_retraceref20_rests c r a).getD false = true) :
    ∃ b y, F_retraceref20_Settle c a = some b ∧ InR c r d T b ∧ lAt c.Ins b = some y ∧ (y.Op = 1 ∨ y.Op = 24) := by
  obtain ⟨b, hb, _⟩ := ok_Settle c h.ins a
  unfold F_retraceref20_rests F_retraceref20_rests_J1 at hr
  simp only [hb, hd, hT, Option.bind_some] at hr
  by_cases h1 : d.Entry ≤ b
  · by_cases h2 : b < T
    · rw [dct h1, dct h2] at hr
      cases hy : lAt c.Ins b with
      | none => rw [hy] at hr; cases hr
      | some y =>
        rw [hy] at hr
        refine ⟨b, y, hb, ⟨hd, hT, h1, h2⟩, hy, ?_⟩
        cases e : (y.Op == 1) with
        | true => exact .inl (eq_of_beq e)
        | false =>
          simp only [cond_true, Option.bind_some, e, cond_false, Option.getD_some] at hr
          exact .inr (eq_of_beq hr)
    · rw [dct h1, dcf h2] at hr; cases hr
  · rw [dcf h1] at hr; cases hr
theorem tgt_jump {x : T_api_Ins} (h : x.Op = 6) : tgt x = (x.A, true) := by
  obtain ⟨op, a, b⟩ := x
  replace h : op = 6 := h
  subst h; rfl
/-- From a jump one comes to something else, in the same routine. -/
theorem jump_settle {c : T_api_Code} (h : CSmall c) (k : COk c) {r T : Int} {d : T_api_Def} (a : Int) : ∀ (n : Nat) (q i : Int), InR c r d T q → (T - q).toNat ≤ n → 0 ≤ i → i + (T - q) ≤ c.Ins.length →
    ∃ b y, Loop (fun s : (Int × Int) => F_code_Settle_L2 c a s.1 s.2) (q, i) = some b ∧ InR c r d T b ∧ lAt c.Ins b = some y ∧ ¬ y.Op = 6 := by
  intro n
  induction n with
  | zero => intro q i hq h1; have := hq.hi; omega
  | succ n ih =>
    intro q i hq h1 h2 h3
    have hi := h.ins
    obtain ⟨hr0, hr1, hE0, hTl⟩ := To_le h k hq.hd hq.hT
    have hlo := hq.lo
    have hhi := hq.hi
    obtain ⟨x, hx, hrx, hex, htl⟩ := k.at h hq
    have step : F_code_Settle_L2 c a q i = cond (x.Op != 6) (some (.inr q)) (some (.inl (x.A, i + 1))) := by
      unfold F_code_Settle_L2 F_code_Settle_J1
      rw [w64i (n := (c.Ins.length : Int) + 1) (by omega) (by omega), dct (by omega), dcf (show ¬ q < 0 by omega), dcf (show ¬ (c.Ins.length : Int) ≤ q by omega), hx, w64i (n := i + 1) (by omega) (by omega)]
      simp only [cond_true, cond_false, Option.bind_some]
      cases (x.Op != 6) <;> rfl
    by_cases hj : x.Op = 6
    · have e : (x.Op != 6) = false := by simp [bne, hj]
      rw [e] at step
      unfold tailB at htl
      rw [tgt_jump hj] at htl
      simp only [Bool.not_true, Bool.false_or, Bool.and_eq_true, decide_eq_true_eq, Bool.or_eq_true] at htl
      obtain ⟨⟨g1, g2, g3⟩, _⟩ := htl
      have hA : InR c r d T x.A := ⟨hq.hd, hq.hT, g1, g2⟩
      rcases g3 with g3 | g3
      · obtain ⟨b, y, q1, q2⟩ := ih x.A (i + 1) hA (by omega) (by omega) (by omega)
        exact ⟨b, y, (Loop_inl step).trans q1, q2⟩
      · obtain ⟨z, hz, _⟩ := lAt_ok (l := c.Ins) (i := x.A) (by omega) (by omega)
        rw [hz] at g3
        have g3 : z.Op = 1 := eq_of_beq g3
        refine ⟨x.A, z, (Loop_inl step).trans (Loop_inr ?_), hA, hz, by omega⟩
        show F_code_Settle_L2 c a x.A (i + 1) = _
        unfold F_code_Settle_L2 F_code_Settle_J1
        rw [w64i (n := (c.Ins.length : Int) + 1) (by omega) (by omega), dct (by omega), dcf (show ¬ x.A < 0 by omega), dcf (show ¬ (c.Ins.length : Int) ≤ x.A by omega), hz]
        simp only [cond_true, cond_false, Option.bind_some, g3]; rfl
    · have e : (x.Op != 6) = true := by simp [bne, hj]
      rw [e] at step
      exact ⟨q, x, Loop_inr step, hq, hx, hj⟩
theorem right_check {c : T_api_Code} (h : CSmall c) : ∃ b, F_retraceref20_Right c = some b ∧ (b = true → F_code_Check c = some (0, 0) ∧ COk c) := by
  obtain ⟨a, e, q1, q2, q3⟩ := check_eq c h
  unfold F_retraceref20_Right
  rw [q2]
  simp only [Option.bind_some]
  rw [grd_t ⟨rfl, rfl⟩]
  refine ⟨_, rfl, fun hb => ?_⟩
  have : [a, e] = [0, 0] := by simpa using hb
  simp only [List.cons.injEq, and_true] at this
  obtain ⟨rfl, rfl⟩ := this
  exact ⟨q1, (q3 rfl).2⟩
theorem law_rests (c : T_api_Code) (dn : ∀ d ∈ c.Defs, d.Name.size ≤ maxLen) (cn : ∀ d ∈ c.Chans, d.Name.size ≤ maxLen) : F_retracelaw20_CodeRests c = some true := by
  have ht : F_retracelaw20_CodeRests_J1 c true = some true := by
    unfold F_retracelaw20_CodeRests_J1
    rw [ev_retracelaw20_live]; rfl
  unfold F_retracelaw20_CodeRests
  obtain ⟨b, hb, hl⟩ := large_eq c
  rw [hb]
  cases b with
  | true => exact ht
  | false =>
  obtain ⟨l1, l2, l3⟩ := hl rfl
  have h : CSmall c := ⟨l1, l2, l3, dn, cn⟩
  obtain ⟨rb, hrb, hk⟩ := right_check h
  simp only [Option.bind_some, cond_false, hrb]
  cases rb with
  | false => exact ht
  | true =>
  obtain ⟨hchk, k⟩ := hk rfl
  unfold F_retracelaw20_CodeRests_J1
  rw [Bool.not_true, cond_false, hchk]
  simp only [Option.bind_some]
  show Loop _ 0 = _
  refine Loop_nat (fun k => (k : Int)) c.Ins.length (fun i hi => ?_) ?_
  · show F_retracelaw20_CodeRests_L6 c (i : Int) = _
    obtain ⟨r, d, T, hp⟩ := inR_ex h k (p := (i : Int)) (by omega) (by omega)
    obtain ⟨x, hx, hrx, hex, htl⟩ := k.at h hp
    obtain ⟨hr0, hr1, hE0, hTl⟩ := To_le h k hp.hd hp.hT
    have hrt := inR_routine h k hp
    have e1 : w64 ((i : Int) + 1) = (i : Int) + 1 := w64i (by omega) (by omega)
    have j2 : F_retracelaw20_CodeRests_J2 (i : Int) = some (.inl ((i + 1 : Nat) : Int)) := by
      unfold F_retracelaw20_CodeRests_J2; rw [e1]; rfl
    have j4 : ∀ b y, InR c r d T b → lAt c.Ins b = some y → ¬ y.Op = 6 → F_retracelaw20_CodeRests_J4 c (i : Int) b = some (.inl ((i + 1 : Nat) : Int)) := by
      intro b y hb hy hn
      have := hb.lo
      have := hb.hi
      unfold F_retracelaw20_CodeRests_J4 F_retracelaw20_CodeRests_J5
      rw [dcf (show ¬ b < 0 by omega), dcf (show ¬ (c.Ins.length : Int) ≤ b by omega), hy, croutine_eq c l2, croutine_eq c l2, inR_routine h k hb, hrt]
      simp only [cond_false, Option.bind_some, beqf hn, bne_self_eq_false, j2]
    obtain ⟨s1, hs1, _⟩ := ok_Settle c l1 ((i : Int) + 1)
    unfold F_retracelaw20_CodeRests_L6 F_retracelaw20_CodeRests_J3
    rw [dct (show (i : Int) < c.Ins.length by omega), hx]
    simp only [cond_true, Option.bind_some, acts_s, e1, settle_eq c l1, hs1]
    by_cases hj : x.Op = 6
    · obtain ⟨b, y, g1, g2, g3, g4⟩ := jump_settle h k (i : Int) _ (i : Int) 0 hp (Nat.le_refl _) (by omega) (by omega)
      have g1 : F_retraceref20_Settle c (i : Int) = some b := by rw [← settle_eq c l1]; exact g1
      simp only [hj, g1, Option.bind_some, j4 b y g2 g3 g4, beq_self_eq_true, cond_true, bne_self_eq_false, cond_false]
      cases actsB 6 <;> rfl
    · simp only [beqf hj, bne, Bool.not_false, cond_false, cond_true, j2]
      cases ha : actsB x.Op with
      | false => rfl
      | true =>
        unfold tailB at htl
        rw [ha, e1] at htl
        simp only [Bool.and_eq_true, Bool.not_true, Bool.false_or] at htl
        obtain ⟨b, y, g1, g2, g3, g4⟩ := rests_get h hp.hd hp.hT htl.2.1
        rw [hs1] at g1
        cases g1
        simp only [Bool.not_true, cond_false, j4 s1 y g2 g3 (by omega)]
  · show F_retracelaw20_CodeRests_L6 c (c.Ins.length : Int) = _
    unfold F_retracelaw20_CodeRests_L6
    rw [dcf (by omega), ev_retracelaw20_live]; rfl
end Go.Ab
