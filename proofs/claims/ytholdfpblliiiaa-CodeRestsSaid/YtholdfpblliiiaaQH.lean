/- What is there at each place: the program's map and the reference's row. -/
import Derived.Test.YtholdfpblliiiaaQF
namespace Go.Ab
set_option linter.unusedVariables false
set_option maxRecDepth 10000
theorem mGet_put {α : Type} (l : List (Int × α)) (k q : Int) (x : α) : mGet (mPut l k x) q = if q = k then some x else mGet l q := by
  induction l with
  | nil =>
    simp only [mPut, mGet, beq_iff_eq]
  | cons p l ih =>
    simp only [mPut]
    by_cases h : k = p.1
    · rw [if_pos (beqt h)]
      simp only [mGet, beq_iff_eq]
      by_cases h2 : q = k
      · rw [if_pos (h2.trans h), if_pos h2]
      · rw [if_neg (fun e => h2 (e.trans h.symm)), if_neg h2, if_neg (fun e => h2 (e.trans h.symm))]
    · rw [if_neg (by rw [beqf h]; decide)]
      simp only [mGet, beq_iff_eq]
      by_cases h2 : q = p.1
      · rw [if_pos h2, if_neg (fun e => h (e.symm.trans h2)), if_pos h2]
      · rw [if_neg h2, if_neg h2, ih]
theorem lAt_set {α : Type} (l : List α) (k q : Int) (x : α) (h0 : 0 ≤ k) (h1 : k < l.length) (hq : 0 ≤ q) : lAt (List.set l k.toNat x) q = if q = k then some x else lAt l q := by
  unfold lAt
  rw [if_pos hq, List.getElem?_set]
  by_cases h : q = k
  · subst h; rw [if_pos rfl, if_pos (by omega), if_pos rfl]
  · rw [if_neg (by omega), if_neg h, if_pos hq]
def isOf (o : Option T_code_there) : T_retraceref20_Is := match o with | some t => ⟨true, t.n, t.choose⟩ | none => ⟨false, 0, false⟩
structure FI (n : Nat) (p : Int) (kn : List (Int × T_code_there)) (all : List T_retraceref20_Is) : Prop where
  len : all.length = n + 1
  rel : ∀ q : Int, p ≤ q → q ≤ n → lAt all q = some (isOf (mGet kn q))
theorem FI.up {n : Nat} {p p' : Int} {kn : List (Int × T_code_there)} {all : List T_retraceref20_Is} (h : FI n p kn all) (hp : p ≤ p') : FI n p' kn all := ⟨h.len, fun q a b => h.rel q (by omega) b⟩
def isCl (r : (List T_retraceref20_Is × Bool) ⊕ (List T_retraceref20_Is × Bool)) : List T_retraceref20_Is × Bool := match r with | .inl r => r | .inr r => r
theorem meet_rel {n : Nat} (hn : n ≤ 150) {p to : Int} (hp : 0 ≤ p) (ht : to ≤ n) (now : T_code_there) {kn : List (Int × T_code_there)} {all : List T_retraceref20_Is} (h : FI n (p + 1) kn all) :
    ∃ ok' kn' r, F_code_checker_flow_1 to now p true kn = some (ok', kn') ∧ F_retraceref20_meets p to ⟨true, now.n, now.choose⟩ all = some r ∧ (isCl r).2 = ok' ∧ FI n (p + 1) kn' (isCl r).1 := by
  unfold F_code_checker_flow_1 F_retraceref20_meets Let
  by_cases h1 : to ≤ p
  · rw [dct h1]
    refine ⟨_, _, _, rfl, rfl, ?_, h⟩
    show (true == true && _) = _
    rfl
  · rw [dcf h1]
    have hr := h.rel to (by omega) ht
    have hl : to < all.length := by rw [h.len]; omega
    cases hg : mGet kn to with
    | some t =>
      rw [hg] at hr
      simp only [hr, isOf, cond_false, Option.bind_some, cond_true, Option.isSome_some, Option.getD_some]
      refine ⟨_, _, _, rfl, rfl, ?_, h⟩
      show (true == true && ((t.n == now.n) && ((t.choose == now.choose) && true))) = ((now.n == t.n) && ((now.choose == t.choose) && true))
      rw [show (t.n == now.n) = (now.n == t.n) from BEq.comm, show (t.choose == now.choose) = (now.choose == t.choose) from BEq.comm]
      rfl
    | none =>
      rw [hg] at hr
      simp only [hr, isOf, cond_false, Option.bind_some, Option.isSome_none]
      rw [grd_t (by simp [h.len]; omega), List.nil_append, hr]
      refine ⟨_, _, _, rfl, rfl, rfl, ?_⟩
      show FI n (p + 1) (mPut kn to now) (List.set all to.toNat ⟨true, now.n, now.choose⟩)
      refine ⟨by rw [List.length_set]; exact h.len, fun q a b => ?_⟩
      rw [lAt_set all to q _ (by omega) hl (by omega), mGet_put]
      by_cases hq : q = to
      · rw [if_pos hq, if_pos hq]; rfl
      · rw [if_neg hq, if_neg hq]; exact h.rel q a b
/-- The two go on alike. -/
def Alike (n : Nat) (p : Int) (a : Option ((List (Int × T_code_there) × Int) ⊕ (Int × Bool))) (b : Option ((Int × List T_retraceref20_Is) ⊕ (List T_retraceref20_Is × Int))) : Prop :=
  (∃ all, a = some (.inr (p, false)) ∧ b = some (.inr (all, p))) ∨ ∃ kn all, a = some (.inl (kn, p + 1)) ∧ b = some (.inl (p + 1, all)) ∧ FI n (p + 1) kn all
theorem flow_step (c : T_api_Code) (h : CSmall c) (r p m T V : Int) (E : Int) (hT : F_retraceref20_To c r = some T) (x : T_api_Ins) (hp0 : 0 ≤ p) (hpT : p < T) (hTl : T ≤ c.Ins.length) (hx : lAt c.Ins p = some x)
    (ht : (tgt x).2 = true → (tgt x).1 < c.Ins.length) {kn : List (Int × T_code_there)} {all : List T_retraceref20_Is} (hf : FI c.Ins.length p kn all) :
    Alike c.Ins.length p (F_code_checker_flow_L7 ⟨c, m, E, T, V⟩ kn p) (F_retraceref20_Flow_L8 c r p all) := by
  have hi := h.ins
  have e1 : w64 (p + 1) = p + 1 := w64i (by omega) (by omega)
  have hr := hf.rel p (by omega) (by omega)
  have hl : p < all.length := by rw [hf.len]; omega
  have j4 : ∀ ok kn' all', FI c.Ins.length (p + 1) kn' all' → Alike c.Ins.length p (F_code_checker_flow_J4 p kn' ok) (F_retraceref20_Flow_J5 p ok all') := fun ok kn' all' hf' => by
    unfold F_code_checker_flow_J4 F_code_checker_flow_J1 F_retraceref20_Flow_J5 F_retraceref20_Flow_J1
    rw [e1]
    cases ok
    · exact .inl ⟨_, rfl, rfl⟩
    · exact .inr ⟨_, _, rfl, rfl, hf'⟩
  have j5 : ∀ (nx : T_code_there) b kn' all' (u : Bool), FI c.Ins.length (p + 1) kn' all' → Alike c.Ins.length p (F_code_checker_flow_J5 p (nx, u) kn' true b) (F_retraceref20_Flow_J6 p nx.n nx.choose true all' b) := fun nx b kn' all' u hf' => by
    unfold F_code_checker_flow_J5 F_retraceref20_Flow_J6
    rw [e1]
    cases b
    · exact j4 true kn' all' hf'
    · obtain ⟨ok', kn2, rr, q1, q2, q3, q4⟩ := meet_rel hi hp0 (show p + 1 ≤ c.Ins.length by omega) nx hf'
      simp only [cond_true, q1, q2, Option.bind_some]
      subst q3
      cases rr with
      | inl rr => exact j4 _ _ _ q4
      | inr rr => exact j4 _ _ _ q4
  have j3 : ∀ (nx : T_code_there) ok kn' all', FI c.Ins.length (p + 1) kn' all' → Alike c.Ins.length p (F_code_checker_flow_J3 p x (nx, true) kn' ok) (F_retraceref20_Flow_J4 p x nx.n nx.choose ok all') := fun nx ok kn' all' hf' => by
    unfold F_code_checker_flow_J3 F_retraceref20_Flow_J4
    cases ok
    · unfold F_code_checker_flow_J5
      exact .inl ⟨_, rfl, rfl⟩
    · simp only [cond_true, Bool.not_true, cond_false]
      cases (x.Op != 6)
      · exact j5 nx false kn' all' true hf'
      · cases (x.Op != 18)
        · exact j5 nx false kn' all' true hf'
        · cases (x.Op != 23)
          · exact j5 nx false kn' all' true hf'
          · exact j5 nx _ kn' all' true hf'
  have hset : ∀ y, FI c.Ins.length (p + 1) kn (List.set all p.toNat y) := fun y => by
    refine ⟨by rw [List.length_set]; exact hf.len, fun q a b => ?_⟩
    rw [lAt_set all p q _ hp0 hl (by omega), if_neg (by omega)]
    exact hf.rel q (by omega) b
  have j2 : Alike c.Ins.length p (F_code_checker_flow_J2 kn p (mGet kn p) x false) (F_retraceref20_Flow_J2 c p all false) := by
    unfold F_code_checker_flow_J2 F_retraceref20_Flow_J2 F_retraceref20_Flow_J3 F_retraceref20_Flow_J7 F_code_checker_flow_J6
    obtain ⟨nx, hfit, hnx⟩ := fits_eq x ((mGet kn p).getD ⟨0, false⟩)
    have hy : ∃ N C, isOf (mGet kn p) = ⟨(isOf (mGet kn p)).Come, N, C⟩ ∧ (mGet kn p).getD ⟨0, false⟩ = ⟨N, C⟩ := by
      cases mGet kn p with
      | none => exact ⟨0, false, rfl, rfl⟩
      | some t => exact ⟨t.n, t.choose, rfl, rfl⟩
    obtain ⟨N, C, g1, g2⟩ := hy
    rw [g2] at hfit hnx
    rw [g1] at hr
    have hs := lAt_set all p p (⟨true, N, C⟩ : T_retraceref20_Is) hp0 hl hp0
    rw [if_pos rfl] at hs
    simp only [cond_false, hr, hx, hs, Option.bind_some, fit_s, tak_s, giv_s, tgt_s, chos_s, g2, hfit, target_eq, chooses_eq]
    cases hb : fitB x N C with
    | false =>
      left
      refine ⟨List.set all p.toNat ⟨true, N, C⟩, ?_, ?_⟩
      · unfold F_code_checker_flow_J3 F_code_checker_flow_J5 F_code_checker_flow_J4
        cases (tgt x).2 <;> rfl
      · rfl
    | true =>
      have hnx := hnx hb
      have hcc : (C || (x.Op == 25)) = nx.choose := by rw [hnx]
      have hnn : w64 (w64 (N - takN x) + givN x) = nx.n := by rw [hnx]
      have key : ∀ (ch : Bool), ch = nx.choose → Alike c.Ins.length p
          (cond (tgt x).2 (cond (chosB x.Op) ((F_code_checker_flow_1 (tgt x).1 ⟨0, false⟩ p true kn).bind fun y269 => F_code_checker_flow_J3 p x (nx, true) y269.2 y269.1) ((F_code_checker_flow_1 (tgt x).1 nx p true kn).bind fun y270 => F_code_checker_flow_J3 p x (nx, true) y270.2 y270.1)) (F_code_checker_flow_J3 p x (nx, true) kn true))
          (cond (tgt x).2 (cond (chosB x.Op) ((F_retraceref20_meets p (tgt x).1 ⟨true, 0, false⟩ (List.set all p.toNat ⟨true, N, C⟩)).bind fun y429 => (Sum.elim (fun y430 => F_retraceref20_Flow_J4 p x nx.n ch y430.2 y430.1) (fun y431 => F_retraceref20_Flow_J4 p x nx.n ch y431.2 y431.1)) y429) ((F_retraceref20_meets p (tgt x).1 ⟨true, nx.n, ch⟩ (List.set all p.toNat ⟨true, N, C⟩)).bind fun y429 => (Sum.elim (fun y430 => F_retraceref20_Flow_J4 p x nx.n ch y430.2 y430.1) (fun y431 => F_retraceref20_Flow_J4 p x nx.n ch y431.2 y431.1)) y429)) (F_retraceref20_Flow_J4 p x nx.n ch true (List.set all p.toNat ⟨true, N, C⟩))) := by
        intro ch hch
        subst hch
        cases htt : (tgt x).2 with
        | false => exact j3 nx true kn _ (hset _)
        | true =>
          have := ht htt
          have mm : ∀ now : T_code_there, Alike c.Ins.length p ((F_code_checker_flow_1 (tgt x).1 now p true kn).bind fun y269 => F_code_checker_flow_J3 p x (nx, true) y269.2 y269.1)
              ((F_retraceref20_meets p (tgt x).1 ⟨true, now.n, now.choose⟩ (List.set all p.toNat ⟨true, N, C⟩)).bind fun y429 => (Sum.elim (fun y430 => F_retraceref20_Flow_J4 p x nx.n nx.choose y430.2 y430.1) (fun y431 => F_retraceref20_Flow_J4 p x nx.n nx.choose y431.2 y431.1)) y429) := fun now => by
            obtain ⟨ok', kn2, rr, q1, q2, q3, q4⟩ := meet_rel hi hp0 (show (tgt x).1 ≤ c.Ins.length by omega) now (hset ⟨true, N, C⟩)
            simp only [q1, q2, Option.bind_some]
            subst q3
            cases rr with
            | inl rr => exact j3 nx _ _ _ q4
            | inr rr => exact j3 nx _ _ _ q4
          cases chosB x.Op
          · exact mm nx
          · exact mm ⟨0, false⟩
      simp only [Bool.not_true, cond_false, hnn]
      cases C with
      | true =>
        have := key true (by rw [← hcc]; rfl)
        revert this
        cases (tgt x).2 <;> exact id
      | false =>
        have := key (x.Op == 25) (by rw [← hcc]; rfl)
        revert this
        cases (tgt x).2 <;> exact id
  unfold F_code_checker_flow_L7 F_retraceref20_Flow_L8 Let
  rw [hT]
  simp only [Option.bind_some, dct hpT, cond_true, hr, hx]
  have hcome : (isOf (mGet kn p)).Come = (mGet kn p).isSome := by cases mGet kn p <;> rfl
  rw [hcome]
  cases (mGet kn p).isSome with
  | true => exact j2
  | false =>
    cases hq : (x.Op != 1) with
    | false => simp only [Bool.not_false, cond_true, hq]; exact j2
    | true =>
      simp only [Bool.not_false, cond_true, hq]
      unfold F_code_checker_flow_J2 F_code_checker_flow_J1 F_retraceref20_Flow_J2 F_retraceref20_Flow_J1
      rw [e1]
      exact .inr ⟨_, _, rfl, rfl, hf.up (by omega)⟩
end Go.Ab
