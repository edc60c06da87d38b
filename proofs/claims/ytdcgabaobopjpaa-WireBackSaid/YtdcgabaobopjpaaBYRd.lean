/- What is read, and what was written: readers put together. -/
import Derived.Test.YtdcgabaobopjpaaBYRead
namespace Go.Ab
set_option linter.unusedVariables false
/-- one reads what enc writes -/
structure Rdr {α : Type} (one : RD → α × RD) (enc : α → List Int) (ok : α → Prop) : Prop where
  bad : ∀ r : RD, r.e ≠ 0 → (one r).2 = r
  shr : ∀ r : RD, (one r).2.s.size ≤ r.s.size ∧ (r.e = 0 → (one r).2.e = 0 → (one r).2.s.size < r.s.size)
  fwd : ∀ (x : α) (r : RD) (rest : List Int), ok x → r.e = 0 → sB r.s = enc x ++ rest → ∃ r' : RD, one r = (x, r') ∧ r'.e = 0 ∧ sB r'.s = rest
  bwd : ∀ r : RD, r.e = 0 → (one r).2.e = 0 → sB r.s = enc (one r).1 ++ sB (one r).2.s ∧ ok (one r).1
section
variable {α β : Type} {one : RD → α × RD} {enc : α → List Int} {ok : α → Prop} {two : RD → β × RD} {enc2 : β → List Int} {ok2 : β → Prop}
theorem Rdr.e0 (h : Rdr one enc ok) {r : RD} (h' : (one r).2.e = 0) : r.e = 0 := by
  cases hd : decide (r.e = 0) with
  | true => exact of_decide_eq_true hd
  | false => rw [h.bad r (of_decide_eq_false hd)] at h'; exact h'
def pairR (one : RD → α × RD) (two : RD → β × RD) (r : RD) : (α × β) × RD := (((one r).1, (two (one r).2).1), (two (one r).2).2)
theorem Rdr.pair (h : Rdr one enc ok) (k : Rdr two enc2 ok2) : Rdr (pairR one two) (fun x => enc x.1 ++ enc2 x.2) (fun x => ok x.1 ∧ ok2 x.2) where
  bad := fun r hr => by
    show (two (one r).2).2 = r
    have := h.bad r hr
    rw [this]; exact k.bad r hr
  shr := fun r => by
    show (two (one r).2).2.s.size ≤ _ ∧ (_ → (two (one r).2).2.e = 0 → (two (one r).2).2.s.size < _)
    obtain ⟨a, b⟩ := h.shr r
    obtain ⟨c, d⟩ := k.shr (one r).2
    refine ⟨by omega, fun hr he => ?_⟩
    have := b hr (k.e0 he)
    omega
  fwd := fun x r rest hx hr hs => by
    obtain ⟨r1, e1, f1, s1⟩ := h.fwd x.1 r (enc2 x.2 ++ rest) hx.1 hr (by rw [hs, List.append_assoc])
    obtain ⟨r2, e2, f2, s2⟩ := k.fwd x.2 r1 rest hx.2 f1 s1
    refine ⟨r2, ?_, f2, s2⟩
    unfold pairR
    rw [e1]
    simp only
    rw [e2]
  bwd := fun r hr he => by
    have he : (two (one r).2).2.e = 0 := he
    have h1 := k.e0 he
    obtain ⟨a, b⟩ := h.bwd r hr h1
    obtain ⟨c, d⟩ := k.bwd (one r).2 h1 he
    refine ⟨?_, b, d⟩
    show sB r.s = (enc (one r).1 ++ enc2 (two (one r).2).1) ++ sB (two (one r).2).2.s
    rw [List.append_assoc, ← c, ← a]
theorem Rdr.iso (h : Rdr one enc ok) (f : α → β) (g : β → α) (fg : ∀ b, f (g b) = b) (gf : ∀ a, g (f a) = a) : Rdr (fun r => (f (one r).1, (one r).2)) (fun b => enc (g b)) (fun b => ok (g b)) where
  bad := h.bad
  shr := h.shr
  fwd := fun x r rest hx hr hs => by
    obtain ⟨r1, e1, f1, s1⟩ := h.fwd (g x) r rest hx hr hs
    exact ⟨r1, by rw [e1]; simp only [fg], f1, s1⟩
  bwd := fun r hr he => by
    obtain ⟨a, b⟩ := h.bwd r hr he
    simp only [gf]
    exact ⟨a, b⟩
def many (one : RD → α × RD) : Nat → RD → List α × RD
  | 0, r => ([], r)
  | n + 1, r => if r.e ≠ 0 then ([], r) else ((one r).1 :: (many one n (one r).2).1, (many one n (one r).2).2)
theorem many_bad {r : RD} (h : r.e ≠ 0) (n : Nat) : many one n r = ([], r) := by
  cases n with
  | zero => rfl
  | succ n => exact if_pos h
theorem many_good {r : RD} (h : r.e = 0) (n : Nat) : many one (n + 1) r = ((one r).1 :: (many one n (one r).2).1, (many one n (one r).2).2) := if_neg (by simpa using h)
theorem many_len (h : Rdr one enc ok) : ∀ (n : Nat) (r : RD), (many one n r).1.length ≤ r.s.size + 1 ∧ (many one n r).2.s.size ≤ r.s.size
  | 0, r => ⟨Nat.zero_le _, Nat.le_refl _⟩
  | n + 1, r => by
    by_cases he : r.e = 0
    · rw [many_good he]
      obtain ⟨a, b⟩ := h.shr r
      obtain ⟨c, d⟩ := many_len h n (one r).2
      by_cases he2 : (one r).2.e = 0
      · have := b he he2
        exact ⟨by simp only [List.length_cons]; omega, by simp only; omega⟩
      · rw [many_bad he2]
        exact ⟨by simp, a⟩
    · rw [many_bad he]; exact ⟨Nat.zero_le _, Nat.le_refl _⟩
theorem many_all (h : Rdr one enc ok) {B : Nat} {p : α → Prop} (hp : ∀ r : RD, r.s.size ≤ B → p (one r).1) : ∀ (n : Nat) (r : RD), r.s.size ≤ B → ∀ x ∈ (many one n r).1, p x
  | 0, r, _ => fun x hx => by cases hx
  | n + 1, r, hr => fun x hx => by
    by_cases he : r.e = 0
    · rw [many_good he] at hx
      rcases List.mem_cons.1 hx with e | hx
      · rw [e]; exact hp r hr
      · exact many_all h hp n (one r).2 (by have := (h.shr r).1; omega) x hx
    · rw [many_bad he] at hx; cases hx
theorem many_fwd (h : Rdr one enc ok) : ∀ (l : List α) (r : RD) (rest : List Int), (∀ x ∈ l, ok x) → r.e = 0 → sB r.s = l.flatMap enc ++ rest → ∃ r' : RD, many one l.length r = (l, r') ∧ r'.e = 0 ∧ sB r'.s = rest
  | [], r, rest, _, hr, hs => ⟨r, rfl, hr, by simpa using hs⟩
  | x :: l, r, rest, hk, hr, hs => by
    obtain ⟨r1, e1, f1, s1⟩ := h.fwd x r (l.flatMap enc ++ rest) (hk x (List.mem_cons_self ..)) hr (by rw [hs]; simp)
    obtain ⟨r2, e2, f2, s2⟩ := many_fwd h l r1 rest (fun y hy => hk y (List.mem_cons_of_mem _ hy)) f1 s1
    refine ⟨r2, ?_, f2, s2⟩
    rw [List.length_cons, many_good hr, e1]
    simp only
    rw [e2]
theorem many_back (h : Rdr one enc ok) : ∀ (n : Nat) (r : RD), (many one n r).2.e = 0 → (many one n r).1.length = n ∧ sB r.s = (many one n r).1.flatMap enc ++ sB (many one n r).2.s ∧ ∀ x ∈ (many one n r).1, ok x
  | 0, r, _ => ⟨rfl, by simp [many], fun x hx => by cases hx⟩
  | n + 1, r, he => by
    by_cases hr : r.e = 0
    · rw [many_good hr] at he ⊢
      have he' : (many one n (one r).2).2.e = 0 := he
      have h1 : (one r).2.e = 0 := by
        cases hd : decide ((one r).2.e = 0) with
        | true => exact of_decide_eq_true hd
        | false => rw [many_bad (of_decide_eq_false hd)] at he'; exact he'
      obtain ⟨a, b⟩ := h.bwd r hr h1
      obtain ⟨c, d, e⟩ := many_back h n (one r).2 he'
      refine ⟨by simp [c], ?_, fun x hx => ?_⟩
      · rw [a, d]; simp
      · rcases List.mem_cons.1 hx with q | q
        · rw [q]; exact b
        · exact e x q
    · rw [many_bad hr] at he; exact absurd he hr
theorem rUpto_bad {m : Int} {r : RD} (h : r.e ≠ 0) : rUpto m r = (0, r) := if_pos h
theorem rUpto_shr {m : Int} (hm : m ≤ 9223372036854775807) (r : RD) : (rUpto m r).2.s.size ≤ r.s.size ∧ (r.e = 0 → (rUpto m r).2.e = 0 → (rUpto m r).2.s.size < r.s.size) := by
  refine ⟨(rUpto_ok m hm r).2.2, fun hr he => ?_⟩
  obtain ⟨a, b, c⟩ := rUpto_back hr he
  have h1 := congrArg List.length a
  rw [List.length_append, sB_len, sB_len] at h1
  have := (numL_len (rUpto m r).1).2
  omega
def listR (m : Int) (one : RD → α × RD) (r : RD) : List α × RD := many one (rUpto m r).1.toNat (rUpto m r).2
def listL (enc : α → List Int) (l : List α) : List Int := numL l.length ++ l.flatMap enc
theorem Rdr.list (h : Rdr one enc ok) (m : Int) (hm : 0 ≤ m ∧ m ≤ 9223372036854775807) : Rdr (listR m one) (listL enc) (fun l => (l.length : Int) ≤ m ∧ ∀ x ∈ l, ok x) where
  bad := fun r hr => by
    show (many one (rUpto m r).1.toNat (rUpto m r).2).2 = r
    rw [rUpto_bad hr]; rfl
  shr := fun r => by
    show (many one (rUpto m r).1.toNat (rUpto m r).2).2.s.size ≤ _ ∧ (_ → (many one (rUpto m r).1.toNat (rUpto m r).2).2.e = 0 → (many one (rUpto m r).1.toNat (rUpto m r).2).2.s.size < _)
    obtain ⟨a, b⟩ := rUpto_shr hm.2 r
    have c := (many_len h (rUpto m r).1.toNat (rUpto m r).2).2
    refine ⟨by omega, fun hr he => ?_⟩
    have h1 : (rUpto m r).2.e = 0 := by
      cases hd : decide ((rUpto m r).2.e = 0) with
      | true => exact of_decide_eq_true hd
      | false => rw [many_bad (of_decide_eq_false hd)] at he; exact he
    have := b hr h1
    omega
  fwd := fun l r rest hx hr hs => by
    obtain ⟨r1, e1, f1, s1⟩ := rUpto_fwd (m := m) (u := (l.length : Int)) hr (by omega) hx.1 hm.2 (rest := l.flatMap enc ++ rest) (by rw [hs]; unfold listL; rw [List.append_assoc])
    obtain ⟨r2, e2, f2, s2⟩ := many_fwd h l r1 rest hx.2 f1 s1
    refine ⟨r2, ?_, f2, s2⟩
    unfold listR
    rw [e1]
    simp only [Int.toNat_natCast]
    exact e2
  bwd := fun r hr he => by
    have he : (many one (rUpto m r).1.toNat (rUpto m r).2).2.e = 0 := he
    have h1 : (rUpto m r).2.e = 0 := by
      cases hd : decide ((rUpto m r).2.e = 0) with
      | true => exact of_decide_eq_true hd
      | false => rw [many_bad (of_decide_eq_false hd)] at he; exact he
    obtain ⟨a, b, c⟩ := rUpto_back hr h1
    obtain ⟨d, e, f⟩ := many_back h _ _ he
    refine ⟨?_, ?_, f⟩
    · show sB r.s = listL enc (many one (rUpto m r).1.toNat (rUpto m r).2).1 ++ sB (many one (rUpto m r).1.toNat (rUpto m r).2).2.s
      unfold listL
      rw [d, Int.toNat_of_nonneg b, List.append_assoc, ← e, ← a]
    · show ((many one (rUpto m r).1.toNat (rUpto m r).2).1.length : Int) ≤ m
      rw [d]; omega
end
def okI (n : Int) : Prop := -9223372036854775808 ≤ n ∧ n ≤ 9223372036854775807
theorem intR : Rdr rInt intL okI where
  bad := fun r hr => by rw [rInt_bad hr]
  shr := rInt_size
  fwd := fun x r rest hx hr hs => rInt_fwd hr hx.1 hx.2 hs
  bwd := fun r hr he => ⟨rInt_back hr he, rInt_rng r⟩
theorem rMany_many : ∀ (n : Nat) (r : RD), rMany n r = many rInt n r
  | 0, r => rfl
  | n + 1, r => by
    unfold rMany many
    split
    · rfl
    · rw [rMany_many n]
/-- a loop that reads one thing behind the other -/
theorem Loop_many {S' R α : Type} {step : S' → Option (S' ⊕ R)} {one : RD → α × RD} {enc : α → List Int} {ok : α → Prop} (h : Rdr one enc ok) (emb : Int → RD → List α → S') (fin : RD → List α → R) (n : Int) (hn : n ≤ 9223372036854775807) (B : Nat) (hB : B ≤ 1000000)
    (h1 : ∀ (i : Nat) (r : RD) (out : List α), (i : Int) < n → r.e = 0 → out.length = i → i + r.s.size ≤ B → step (emb (i : Int) r out) = some (.inl (emb ((i + 1 : Nat) : Int) (one r).2 (out ++ [(one r).1]))))
    (h2 : ∀ (i : Nat) (r : RD) (out : List α), (n ≤ i ∨ r.e ≠ 0) → out.length = i → i ≤ B + 1 → r.s.size ≤ B → step (emb (i : Int) r out) = some (.inr (fin r out))) :
    ∀ r : RD, r.s.size ≤ B → Loop step (emb 0 r []) = some (fin (many one n.toNat r).2 (many one n.toNat r).1) := by
  have key : ∀ (d : Nat) (i : Nat) (r : RD) (out : List α), (i : Int) + d = n → out.length = i → i + r.s.size ≤ B → Loop step (emb (i : Int) r out) = some (fin (many one d r).2 (out ++ (many one d r).1)) := by
    intro d
    induction d with
    | zero =>
      intro i r out hi ho hb
      rw [Loop_inr (h2 i r out (.inl (by omega)) ho (by omega) (by omega))]
      simp [many]
    | succ d ih =>
      intro i r out hi ho hb
      by_cases he : r.e = 0
      · rw [Loop_inl (h1 i r out (by omega) he ho hb), many_good he]
        obtain ⟨a, b⟩ := h.shr r
        by_cases he2 : (one r).2.e = 0
        · have := b he he2
          rw [ih (i + 1) (one r).2 (out ++ [(one r).1]) (by omega) (by simp [ho]) (by omega)]
          simp
        · rw [many_bad he2, Loop_inr (h2 (i + 1) (one r).2 (out ++ [(one r).1]) (.inr he2) (by simp [ho]) (by omega) (by omega))]
      · rw [many_bad he, Loop_inr (h2 i r out (.inr he) ho (by omega) (by omega)), List.append_nil]
  intro r hr
  by_cases hn0 : 0 ≤ n
  · have := key n.toNat 0 r [] (by omega) rfl (by omega)
    rw [List.nil_append] at this
    exact this
  · have e : n.toNat = 0 := by omega
    rw [e]
    exact Loop_inr (h2 0 r [] (.inl (by omega)) rfl (by omega) hr)
end Go.Ab
