/- An operation looks at a part of memory; the rest stays. -/
import Derived.Test.YtiikgefgheigiaaAbAt
namespace Go.Ab
open Go.RowKit

/- A value does not name an object of these numbers. -/
mutual
def PV.noM (lo hi : Nat) : PV → Bool
  | .d _ => true
  | .ptr i _ => i < lo || hi ≤ i
  | .row i _ => i < lo || hi ≤ i
  | .pp _ => true
  | .fn _ a b => PV.noMs lo hi a && PV.noMs lo hi b
  | .agg cs => PV.noMs lo hi cs
  | .dagg _ => true
  | .tup cs => PV.noMs lo hi cs
  | .undef => true
def PV.noMs (lo hi : Nat) : List PV → Bool
  | [] => true
  | x :: l => PV.noM lo hi x && PV.noMs lo hi l
end
def AObj.noM (lo hi : Nat) : AObj → Bool
  | .blk _ cs => PV.noMs lo hi cs
  | _ => true
theorem noMs_get {lo hi : Nat} : ∀ {l : List PV} {j : Nat} {x : PV}, PV.noMs lo hi l = true → l[j]? = some x → x.noM lo hi = true
  | [], j, x, _, h => by simp at h
  | y :: l, 0, x, hb, h => by simp [PV.noMs] at hb h; subst h; exact hb.1
  | y :: l, j + 1, x, hb, h => by simp [PV.noMs] at hb h; exact noMs_get hb.2 h

def effO (e : Option Nat) (x : PV) : PV := match e with | none => x | some i => x.sub i fun _ => .undef
def effA (e : Option Nat) (o : AObj) : AObj := match e with | none => o | some i => o.sub i fun _ => .undef
def effF (e : Option Nat) : Option (Nat × (Nat → PV)) := e.map fun i => (i, fun _ => .undef)
theorem effs_effF (e : Option Nat) (x : PV) : x.effs (effF e) = effO e x := by cases e <;> rfl
def effIn (e : Option Nat) (σ : List AObj) : Bool := match e with | none => true | some i => match σ[i]? with | some o => o.live | none => false

/-- What is laid over a store. -/
def overlay : List (Option AObj) → List AObj → List AObj
  | [], σ => σ
  | _ :: _, [] => []
  | none :: u, y :: σ => y :: overlay u σ
  | some x :: u, _ :: σ => x :: overlay u σ
theorem overlay_get : ∀ (u : List (Option AObj)) (σ : List AObj) (i : Nat), (overlay u σ)[i]? = match u[i]? with | some (some x) => (σ[i]?).map fun _ => x | _ => σ[i]?
  | [], σ, i => by simp [overlay]
  | _ :: _, [], i => by simp [overlay]; split <;> simp
  | none :: u, y :: σ, 0 => by simp [overlay]
  | none :: u, y :: σ, i + 1 => by simpa [overlay] using overlay_get u σ i
  | some x :: u, y :: σ, 0 => by simp [overlay]
  | some x :: u, y :: σ, i + 1 => by simpa [overlay] using overlay_get u σ i
theorem overlay_length : ∀ (u : List (Option AObj)) (σ : List AObj), (overlay u σ).length = σ.length
  | [], σ => rfl
  | _ :: _, [] => rfl
  | none :: u, y :: σ => by simp [overlay, overlay_length u σ]
  | some x :: u, y :: σ => by simp [overlay, overlay_length u σ]

def over : List AObj → List AObj → List (Option AObj)
  | [], σ' => σ'.map some
  | _ :: _, [] => []
  | l :: σL, x :: σ' => (if l.live then some x else none) :: over σL σ'
theorem over_get : ∀ (σL σ' : List AObj) (i : Nat), (over σL σ')[i]? = (σ'[i]?).map fun x => match σL[i]? with | some l => if l.live then some x else none | none => some x
  | [], σ', i => by simp [over]
  | _ :: _, [], i => by simp [over]
  | l :: σL, x :: σ', 0 => by simp [over]
  | l :: σL, x :: σ', i + 1 => by simpa [over] using over_get σL σ' i

section
variable {P : Program} {E : Entry} {hz hz' : Hp} {φ φ' : Phi} {σ : List AObj} {w w' : World}

/-- The part of memory that an operation looks at. -/
theorem Mem.part {σL : List AObj} (hM : Mem E hz φ σ w) (hσ : ∀ (i : Nat) (o : AObj), σL[i]? = some o → o.live = true → σ[i]? = some o) (hb : objsB σL.length σL = true) :
    Mem ⟨w, hz, fun g => ∃ i o c, σL[i]? = some o ∧ o.live = true ∧ φ i = some (some (g, c))⟩ hz (fun i => if i < σL.length then φ i else none) σL w :=
  { knows := hM.knows
    objs := fun i o hi => by
      have hlt := lt_of_getL hi
      by_cases hl : o.live = true
      · have hob := objsB_get hb hi
        have ho := hM.objs i o (hσ i o hi hl)
        cases o with
        | blk t cs =>
          obtain ⟨g, c, arr, e1, e2, e3, e4, e5⟩ := ho
          exact ⟨g, c, arr, by simp [hlt, e1], e2, e3, fun j x hj => (e4 j x hj).cut (inBs_get (by simpa [AObj.inB] using hob) hj), e5⟩
        | dblk t cs =>
          obtain ⟨g, c, arr, e1, e2⟩ := ho
          exact ⟨g, c, arr, by simp [hlt, e1], e2⟩
        | row e sz cs =>
          rcases ho with ⟨e1, e2⟩ | ⟨g, cap, arr, fr, e1, e2⟩
          · exact .inl ⟨by simp [hlt, e1], e2⟩
          · exact .inr ⟨g, cap, arr, fr, by simp [hlt, e1], e2⟩
        | dead => trivial
      · cases o with
        | dead => trivial
        | _ => exact absurd rfl hl
    inj := fun i j oi oj g c c' hi hj li lj pi pj => by
      have h1 := lt_of_getL hi
      have h2 := lt_of_getL hj
      simp [h1] at pi
      simp [h2] at pj
      exact hM.inj i j oi oj g c c' (hσ i oi hi li) (hσ j oj hj lj) li lj pi pj
    new := fun i o g c hi li pi => by
      have h1 := lt_of_getL hi
      simp [h1] at pi
      exact .inr ⟨i, o, c, hi, li, pi⟩
    dom := fun i hi => by simp [Nat.not_lt.2 hi]
    os := rfl, tape := rfl, output := rfl, size := Nat.le_refl _
    kept := fun _ _ _ => rfl
    hle := Hp.le_refl _
    hnew := fun g o hg => .inl hg }

/-- Values carried over. -/
theorem carry {e : Option Nat} {r m : Nat} (hle : Hp.le hz hz') (hrm : r ≤ m) (he : ∀ i, e = some i → i < r)
    (ht : ∀ u x, RelV hz (fun i => if i < r then φ i else none) u x → RelV hz' φ' u (effO e x)) {u : Value} {x : PV} (h : RelV hz φ u x) (hn : x.noM r m = true) :
    RelV hz' (fun i => if i < m then φ' i else φ i) u (effO e x) := by
  induction h with
  | d h => cases e <;> exact .d (h.mono hle)
  | ptr i off g c h =>
    by_cases hi : i < r
    · have := ht (.pointer (some ⟨g, off, none⟩)) (.ptr i off) (.ptr i off g c (by simp [hi, h]))
      cases e with
      | none =>
        cases this with
        | ptr _ _ _ c' h' => exact .ptr i off g c' (by simp [Nat.lt_of_lt_of_le hi hrm]; exact h')
      | some k =>
        simp only [effO, PV.sub] at this ⊢
        split
        · exact .undef _
        · rename_i hk
          rw [if_neg hk] at this
          cases this with
          | ptr _ _ _ c' h' => exact .ptr i off g c' (by simp [Nat.lt_of_lt_of_le hi hrm]; exact h')
    · have hm : m ≤ i := by simp [PV.noM] at hn; omega
      have hq : (fun i => if i < m then φ' i else φ i) i = some (some (g, c)) := by simp [Nat.not_lt.2 hm, h]
      cases e with
      | none => exact .ptr i off g c hq
      | some k =>
        have := he k rfl
        simp only [effO, PV.sub]
        rw [if_neg (by omega)]
        exact .ptr i off g c hq
  | row i n g cap h hn' hm' =>
    by_cases hi : i < r
    · have := ht (.slice (some ⟨g, 0, none⟩) n cap) (.row i n) (.row i n g cap (by simp [hi, h]) hn' hm')
      have hlt := Nat.lt_of_lt_of_le hi hrm
      cases e with
      | none =>
        cases this with
        | row _ _ _ _ h' h1 h2 => exact .row i n g cap (by simp [hlt]; exact h') h1 h2
        | rowNil _ _ h' => exact .rowNil i _ (by simp [hlt]; exact h')
      | some k =>
        simp only [effO, PV.sub] at this ⊢
        split
        · exact .undef _
        · rename_i hk
          rw [if_neg hk] at this
          cases this with
          | row _ _ _ _ h' h1 h2 => exact .row i n g cap (by simp [hlt]; exact h') h1 h2
          | rowNil _ _ h' => exact .rowNil i _ (by simp [hlt]; exact h')
    · have hm : m ≤ i := by simp [PV.noM] at hn; omega
      have hq : (fun i => if i < m then φ' i else φ i) i = some (some (g, cap)) := by simp [Nat.not_lt.2 hm, h]
      cases e with
      | none => exact .row i n g cap hq hn' hm'
      | some k =>
        have := he k rfl
        simp only [effO, PV.sub]
        rw [if_neg (by omega)]
        exact .row i n g cap hq hn' hm'
  | rowNil i a h =>
    by_cases hi : i < r
    · have := ht (.slice none 0 0) (.row i 0) (.rowNil i none (by simp [hi, h]))
      have hlt := Nat.lt_of_lt_of_le hi hrm
      cases e with
      | none =>
        cases this with
        | rowNil _ _ h' => exact .rowNil i _ (by simp [hlt]; exact h')
      | some k =>
        simp only [effO, PV.sub] at this ⊢
        split
        · exact .undef _
        · rename_i hk
          rw [if_neg hk] at this
          cases this with
          | rowNil _ _ h' => exact .rowNil i _ (by simp [hlt]; exact h')
    · have hm : m ≤ i := by simp [PV.noM] at hn; omega
      have hq : (fun i => if i < m then φ' i else φ i) i = some none := by simp [Nat.not_lt.2 hm, h]
      cases e with
      | none => exact .rowNil i a hq
      | some k =>
        have := he k rfl
        simp only [effO, PV.sub]
        rw [if_neg (by omega)]
        exact .rowNil i a hq
  | pp g off cs arr e' fr f hg hx hr =>
    have : RelV hz' (fun i => if i < m then φ' i else φ i) (.pointer (some ⟨g, off, none⟩)) (.pp cs) := .pp g off cs arr e' fr f (hle _ _ hg) hx (fun j x hj => (hr j x hj).mono hle)
    cases e <;> exact this
  | fn f a b c d h1 h2 _ _ i1 i2 =>
    simp [PV.noM] at hn
    cases e with
    | none => exact .fn f a b c d h1 h2 (fun j x hj => i1 j x hj (noMs_get hn.1 hj)) (fun j x hj => i2 j x hj (noMs_get hn.2 hj))
    | some k =>
      refine .fn f a b _ _ (by rw [subs_length]; exact h1) (by rw [subs_length]; exact h2) ?_ ?_
      · intro j y hy; obtain ⟨x, hx, rfl⟩ := subs_get hy; exact i1 j x hx (noMs_get hn.1 hx)
      · intro j y hy; obtain ⟨x, hx, rfl⟩ := subs_get hy; exact i2 j x hx (noMs_get hn.2 hx)
  | agg cs cs' h _ ih =>
    have hn' : PV.noMs r m cs' = true := by simpa [PV.noM] using hn
    cases e with
    | none => exact .agg cs cs' h (fun j x hj => ih j x hj (noMs_get hn' hj))
    | some k =>
      refine .agg cs _ (by rw [subs_length]; exact h) ?_
      intro j y hy; obtain ⟨x, hx, rfl⟩ := subs_get hy; exact ih j x hx (noMs_get hn' hx)
  | dagg cs cs' h r =>
    have : RelV hz' (fun i => if i < m then φ' i else φ i) (.agg cs) (.dagg cs') := .dagg cs cs' h (fun j x hj => (r j x hj).mono hle)
    cases e <;> exact this
  | tup cs cs' h _ ih =>
    have hn' : PV.noMs r m cs' = true := by simpa [PV.noM] using hn
    cases e with
    | none => exact .tup cs cs' h (fun j x hj => ih j x hj (noMs_get hn' hj))
    | some k =>
      refine .tup cs _ (by rw [subs_length]; exact h) ?_
      intro j y hy; obtain ⟨x, hx, rfl⟩ := subs_get hy; exact ih j x hx (noMs_get hn' hx)
  | undef v => cases e <;> exact .undef v

/-- The same value, where the numbers that it names lie alike. -/
theorem RelV.cong {m : Nat} {v : Value} {x : PV} (h : RelV hz φ v x) (hb : x.inB m = true) (hp : ∀ i, i < m → φ' i = φ i) : RelV hz φ' v x := by
  induction h with
  | d h => exact .d h
  | ptr i off g c h => simp [PV.inB] at hb; exact .ptr i off g c (by rw [hp i hb]; exact h)
  | row i n g cap h hn hm => simp [PV.inB] at hb; exact .row i n g cap (by rw [hp i hb]; exact h) hn hm
  | rowNil i a h => simp [PV.inB] at hb; exact .rowNil i a (by rw [hp i hb]; exact h)
  | pp g off cs arr e fr f hg hx hr => exact .pp g off cs arr e fr f hg hx hr
  | fn f a b c d h1 h2 _ _ i1 i2 =>
    simp [PV.inB] at hb
    exact .fn f a b c d h1 h2 (fun j x hj => i1 j x hj (inBs_get hb.1 hj)) (fun j x hj => i2 j x hj (inBs_get hb.2 hj))
  | agg cs cs' h _ ih => exact .agg cs cs' h (fun j x hj => ih j x hj (inBs_get (by simpa [PV.inB] using hb) hj))
  | dagg cs cs' h r => exact .dagg cs cs' h r
  | tup cs cs' h _ ih => exact .tup cs cs' h (fun j x hj => ih j x hj (inBs_get (by simpa [PV.inB] using hb) hj))
  | undef v => exact .undef v

theorem effA_live (e : Option Nat) (o : AObj) : (effA e o).live = o.live := by
  cases e with
  | none => rfl
  | some k => cases o <;> rfl

theorem glue_get {e : Option Nat} {σL σ' : List AObj} {i : Nat} {o' : AObj} (h : (overlay (over σL σ') (σ.map (effA e)))[i]? = some o') (hl2 : σ'.length ≤ σ.length) :
    (i < σ'.length ∧ σ'[i]? = some o' ∧ (σL.length ≤ i ∨ ∃ l, σL[i]? = some l ∧ l.live = true)) ∨
    (∃ o, σ[i]? = some o ∧ o' = effA e o ∧ ((i < σL.length ∧ ∃ l, σL[i]? = some l ∧ l.live = false) ∨ σ'.length ≤ i)) := by
  rw [overlay_get, over_get, List.getElem?_map] at h
  rcases Nat.lt_or_ge i σ'.length with hi | hi
  · have hs : σ'[i]? = some σ'[i] := List.getElem?_eq_getElem hi
    have ho : σ[i]? = some (σ[i]'(Nat.lt_of_lt_of_le hi hl2)) := List.getElem?_eq_getElem (Nat.lt_of_lt_of_le hi hl2)
    rw [hs, ho] at h
    simp only [Option.map_some] at h
    cases hL : σL[i]? with
    | none =>
      rw [hL] at h
      simp at h; subst h
      refine .inl ⟨hi, hs, .inl ?_⟩
      rcases Nat.lt_or_ge i σL.length with h1 | h1
      · rw [List.getElem?_eq_getElem h1] at hL; cases hL
      · exact h1
    | some l =>
      rw [hL] at h
      cases hl : l.live with
      | true => simp [hl] at h; subst h; exact .inl ⟨hi, hs, .inr ⟨l, rfl, hl⟩⟩
      | false => simp [hl] at h; subst h; exact .inr ⟨_, ho, rfl, .inl ⟨lt_of_getL hL, l, rfl, hl⟩⟩
  · rw [List.getElem?_eq_none hi] at h
    simp only [Option.map_none] at h
    obtain ⟨o, h1, h2⟩ := Option.map_eq_some_iff.1 h
    exact .inr ⟨o, h1, h2.symm, .inr hi⟩

/-- What lies beside. -/
theorem beside {e : Option Nat} {σL σ' : List AObj} {i : Nat} (he : effIn e σL = true) (ht : ∀ u x, RelV hz (fun i => if i < σL.length then φ i else none) u x → RelV hz' φ' u (effO e x)) (hl1 : σL.length ≤ σ'.length)
    (hB : (i < σL.length ∧ ∃ l, σL[i]? = some l ∧ l.live = false) ∨ σ'.length ≤ i) :
    (φ i = some none → (fun i => if i < σ'.length then φ' i else φ i) i = some none) ∧
    (∀ g c, φ i = some (some (g, c)) → ∃ c', (fun i => if i < σ'.length then φ' i else φ i) i = some (some (g, c')) ∧ (c ≤ maxLen → c' = c)) := by
  rcases hB with ⟨hi, l, hl, hd⟩ | hi
  · have hne : ∀ k, e = some k → k ≠ i := by
      rintro k rfl rfl
      simp [effIn, hl, hd] at he
    have hlt : i < σ'.length := Nat.lt_of_lt_of_le hi hl1
    have keep : ∀ off, effO e (.ptr i off) = .ptr i off := by
      intro off
      cases e with
      | none => rfl
      | some k => simp only [effO, PV.sub]; rw [if_neg (fun h => hne k rfl h.symm)]
    have keepR : ∀ n, effO e (.row i n) = .row i n := by
      intro off
      cases e with
      | none => rfl
      | some k => simp only [effO, PV.sub]; rw [if_neg (fun h => hne k rfl h.symm)]
    refine ⟨fun h => ?_, fun g c h => ?_⟩
    · have := ht (.slice none 0 0) (.row i 0) (.rowNil i none (by simp [hi, h]))
      rw [keepR] at this
      cases this with
      | rowNil _ _ h' => simp [hlt]; exact h'
    · have := ht (.pointer (some ⟨g, 0, none⟩)) (.ptr i 0) (.ptr i 0 g c (by simp [hi, h]))
      rw [keep] at this
      cases this with
      | ptr _ _ _ c' h' =>
        refine ⟨c', by simp [hlt]; exact h', fun hc => ?_⟩
        have h2 := ht (.slice (some ⟨g, 0, none⟩) 0 c) (.row i 0) (.row i 0 g c (by simp [hi, h]) (Nat.zero_le _) hc)
        rw [keepR] at h2
        cases h2 with
        | row _ _ _ _ h3 _ _ => rw [h'] at h3; simpa using h3
        | rowNil _ _ h3 => rw [h'] at h3; cases h3
  · exact ⟨fun h => by simp [Nat.not_lt.2 hi, h], fun g c h => ⟨c, by simp [Nat.not_lt.2 hi, h], fun _ => rfl⟩⟩

theorem Mem.glue {e : Option Nat} {σL σ' : List AObj} (hM : Mem E hz φ σ w) (hσ : ∀ (i : Nat) (o : AObj), σL[i]? = some o → o.live = true → σ[i]? = some o) (hl1 : σL.length ≤ σ'.length) (hl2 : σ'.length ≤ σ.length)
    (he : effIn e σL = true)
    (hM' : Mem ⟨w, hz, fun g => ∃ i o c, σL[i]? = some o ∧ o.live = true ∧ φ i = some (some (g, c))⟩ hz' φ' σ' w')
    (ht : ∀ u x, RelV hz (fun i => if i < σL.length then φ i else none) u x → RelV hz' φ' u (effO e x))
    (hb' : objsB σ'.length σ' = true)
    (hfree : ∀ (i : Nat) (o : AObj), σ[i]? = some o → o.noM σL.length σ'.length = true) :
    Mem E hz' (fun i => if i < σ'.length then φ' i else φ i) (overlay (over σL σ') (σ.map (effA e))) w' := by
  have hei : ∀ i, e = some i → i < σL.length := by
    rintro i rfl
    simp only [effIn] at he
    split at he
    · rename_i o ho; exact lt_of_getL ho
    · cases he
  have hle : Hp.le hz hz' := hM'.hle
  have hlt : ∀ (i : Nat) (o : AObj) (g c : Nat), σ[i]? = some o → o.live = true → φ i = some (some (g, c)) → g < w.heap.size ∧ hz g = none := by
    intro i o g c hi hl hp
    have ho := hM.objs i o hi
    cases o with
    | blk t cs => obtain ⟨g', c', arr, e1, e2, _, _, e5⟩ := ho; rw [hp] at e1; cases e1; exact ⟨lt_of_get e2, e5⟩
    | dblk t cs => obtain ⟨g', c', arr, e1, e2, _, _, e5⟩ := ho; rw [hp] at e1; cases e1; exact ⟨lt_of_get e2, e5⟩
    | row e sz cs =>
      rcases ho with ⟨e1, _⟩ | ⟨g', cap, arr, fr, e1, e2, _, _, _, _, _, e8⟩
      · rw [hp] at e1; cases e1
      · rw [hp] at e1; cases e1; exact ⟨lt_of_get e2, e8⟩
    | dead => cases hl
  -- a block beside is not one of those looked at
  have hown : ∀ (i : Nat) (o : AObj) (g c : Nat), σ[i]? = some o → o.live = true → φ i = some (some (g, c)) → ((i < σL.length ∧ ∃ l, σL[i]? = some l ∧ l.live = false) ∨ σ'.length ≤ i) →
      ¬ ∃ i o c, σL[i]? = some o ∧ o.live = true ∧ φ i = some (some (g, c)) := by
    rintro i o g c hi hl hp hB ⟨j, oj, c', hj, lj, pj⟩
    have := hM.inj i j o oj g c c' hi (hσ j oj hj lj) hl lj hp pj
    subst this
    rcases hB with ⟨_, l, h1, h2⟩ | h1
    · rw [hj] at h1; cases h1; rw [lj] at h2; cases h2
    · have := lt_of_getL hj; omega
  have hzn : ∀ (i : Nat) (o : AObj) (g c : Nat), σ[i]? = some o → o.live = true → φ i = some (some (g, c)) → ((i < σL.length ∧ ∃ l, σL[i]? = some l ∧ l.live = false) ∨ σ'.length ≤ i) →
      w'.heap[g]? = w.heap[g]? ∧ hz' g = none := by
    intro i o g c hi hl hp hB
    obtain ⟨h1, h2⟩ := hlt i o g c hi hl hp
    have h3 := hown i o g c hi hl hp hB
    refine ⟨hM'.kept g h1 h3, ?_⟩
    cases hq : hz' g with
    | none => rfl
    | some x =>
      rcases hM'.hnew g x hq with h | h | h
      · have h : hz g = some x := h
        rw [h2] at h; cases h
      · exact absurd h1 (Nat.not_lt.2 h)
      · exact absurd h h3
  -- where a living object beside lies
  have hwhere : ∀ (i : Nat) (o : AObj) (g c' : Nat), σ[i]? = some o → o.live = true → ((i < σL.length ∧ ∃ l, σL[i]? = some l ∧ l.live = false) ∨ σ'.length ≤ i) →
      (fun i => if i < σ'.length then φ' i else φ i) i = some (some (g, c')) → ∃ c, φ i = some (some (g, c)) := by
    intro i o g c' hi hl hB hp
    obtain ⟨b1, b2⟩ := beside he ht hl1 hB
    have ho := hM.objs i o hi
    have : φ i = some none ∨ ∃ g c, φ i = some (some (g, c)) := by
      cases o with
      | blk t cs => obtain ⟨g', c', _, e1, _⟩ := ho; exact .inr ⟨g', c', e1⟩
      | dblk t cs => obtain ⟨g', c', _, e1, _⟩ := ho; exact .inr ⟨g', c', e1⟩
      | row e sz cs =>
        rcases ho with ⟨e1, _⟩ | ⟨g', c', _, _, e1, _⟩
        · exact .inl e1
        · exact .inr ⟨g', c', e1⟩
      | dead => cases hl
    rcases this with h | ⟨g', c, h⟩
    · rw [b1 h] at hp; cases hp
    · obtain ⟨c2, h2, _⟩ := b2 g' c h
      rw [h2] at hp; cases hp
      exact ⟨c, h⟩
  exact
  { knows := hM'.knows
    objs := fun i o' hi => by
      rcases glue_get hi hl2 with ⟨h1, h2, h3⟩ | ⟨o, h1, rfl, hB⟩
      · have ho := hM'.objs i o' h2
        have hob := objsB_get hb' h2
        have hp : (fun i => if i < σ'.length then φ' i else φ i) i = φ' i := by simp [h1]
        cases o' with
        | blk t cs =>
          obtain ⟨g, c, arr, e1, e2, e3, e4, e5⟩ := ho
          exact ⟨g, c, arr, hp.trans e1, e2, e3, fun j x hj => (e4 j x hj).cong (inBs_get (by simpa [AObj.inB] using hob) hj) (fun i hi => by simp [hi]), e5⟩
        | dblk t cs =>
          obtain ⟨g, c, arr, e1, e2⟩ := ho
          exact ⟨g, c, arr, hp.trans e1, e2⟩
        | row e sz cs =>
          rcases ho with ⟨e1, e2⟩ | ⟨g, cap, arr, fr, e1, e2⟩
          · exact .inl ⟨hp.trans e1, e2⟩
          · exact .inr ⟨g, cap, arr, fr, hp.trans e1, e2⟩
        | dead => trivial
      · have ho := hM.objs i o h1
        obtain ⟨b1, b2⟩ := beside he ht hl1 hB
        have hfr := hfree i o h1
        cases o with
        | blk t cs =>
          obtain ⟨g, c, arr, e1, e2, e3, e4, e5⟩ := ho
          obtain ⟨c', p1, _⟩ := b2 g c e1
          obtain ⟨k1, k2⟩ := hzn i _ g c h1 rfl e1 hB
          cases e with
          | none => exact ⟨g, c', arr, p1, k1.trans e2, e3, fun j x hj => carry (e := none) hle hl1 hei ht (e4 j x hj) (noMs_get (by simpa [AObj.noM] using hfr) hj), k2⟩
          | some k =>
            refine ⟨g, c', arr, p1, k1.trans e2, by rw [subs_length]; exact e3, ?_, k2⟩
            intro j y hy
            obtain ⟨x, hx, rfl⟩ := subs_get hy
            exact carry (e := some k) hle hl1 hei ht (e4 j x hx) (noMs_get (by simpa [AObj.noM] using hfr) hx)
        | dblk t cs =>
          obtain ⟨g, c, arr, e1, e2, e3, e4, e5⟩ := ho
          obtain ⟨c', p1, _⟩ := b2 g c e1
          obtain ⟨k1, k2⟩ := hzn i _ g c h1 rfl e1 hB
          have : ObjRel hz' (fun i => if i < σ'.length then φ' i else φ i) w' i (.dblk t cs) := ⟨g, c', arr, p1, k1.trans e2, e3, fun j x hj => (e4 j x hj).mono hle, k2⟩
          cases e <;> exact this
        | row e' sz cs =>
          have : ObjRel hz' (fun i => if i < σ'.length then φ' i else φ i) w' i (.row e' sz cs) := by
            rcases ho with ⟨e1, e2⟩ | ⟨g, cap, arr, fr, e1, e2, e3, e4, e5, e6, e7, e8⟩
            · exact .inl ⟨b1 e1, e2⟩
            · obtain ⟨c', p1, p2⟩ := b2 g cap e1
              have := p2 e4; subst this
              obtain ⟨k1, k2⟩ := hzn i _ g _ h1 rfl e1 hB
              exact .inr ⟨g, _, arr, fr, p1, k1.trans e2, e3, e4, e5, e6, fun j x hj => (e7 j x hj).mono hle, k2⟩
          cases e <;> exact this
        | dead => cases e <;> trivial
    inj := fun i j oi oj g c c' hi hj li lj pi pj => by
      rcases glue_get hi hl2 with ⟨h1, h2, h3⟩ | ⟨o, h1, rfl, hB⟩ <;> rcases glue_get hj hl2 with ⟨k1, k2, k3⟩ | ⟨o2, k1, rfl, kB⟩
      · simp [h1] at pi
        simp [k1] at pj
        exact hM'.inj i j oi oj g c c' h2 k2 li lj pi pj
      · exfalso
        rw [effA_live] at lj
        obtain ⟨c2, q⟩ := hwhere j o2 g c' k1 lj kB pj
        simp [h1] at pi
        rcases hM'.new i oi g c h2 li pi with h | h
        · exact absurd (hlt j o2 g c2 k1 lj q).1 (Nat.not_lt.2 h)
        · exact hown j o2 g c2 k1 lj q kB h
      · exfalso
        rw [effA_live] at li
        obtain ⟨c2, q⟩ := hwhere i o g c h1 li hB pi
        simp [k1] at pj
        rcases hM'.new j oj g c' k2 lj pj with h | h
        · exact absurd (hlt i o g c2 h1 li q).1 (Nat.not_lt.2 h)
        · exact hown i o g c2 h1 li q hB h
      · rw [effA_live] at li lj
        obtain ⟨c2, q⟩ := hwhere i o g c h1 li hB pi
        obtain ⟨c3, q3⟩ := hwhere j o2 g c' k1 lj kB pj
        exact hM.inj i j o o2 g c2 c3 h1 k1 li lj q q3
    new := fun i o' g c hi li pi => by
      rcases glue_get hi hl2 with ⟨h1, h2, h3⟩ | ⟨o, h1, rfl, hB⟩
      · simp [h1] at pi
        rcases hM'.new i o' g c h2 li pi with h | ⟨j, oj, c', hj, lj, pj⟩
        · exact .inl (Nat.le_trans hM.size h)
        · exact hM.new j oj g c' (hσ j oj hj lj) lj pj
      · rw [effA_live] at li
        obtain ⟨c2, q⟩ := hwhere i o g c h1 li hB pi
        exact hM.new i o g c2 h1 li q
    dom := fun i hi => by
      rw [overlay_length, List.length_map] at hi
      simp [Nat.not_lt.2 (Nat.le_trans hl2 hi)]
      exact hM.dom i hi
    os := hM'.os.trans hM.os, tape := hM'.tape.trans hM.tape, output := hM'.output.trans hM.output
    size := Nat.le_trans hM.size hM'.size
    kept := fun k h1 h2 => by
      have hk : k < w.heap.size := Nat.lt_of_lt_of_le h1 hM.size
      refine (hM'.kept k hk ?_).trans (hM.kept k h1 h2)
      rintro ⟨j, oj, c', hj, lj, pj⟩
      rcases hM.new j oj k c' (hσ j oj hj lj) lj pj with h | h
      · omega
      · exact h2 h
    hle := Hp.le_trans hM.hle hle
    hnew := fun g o hg => by
      rcases hM'.hnew g o hg with h | h | ⟨j, oj, c', hj, lj, pj⟩
      · exact hM.hnew g o h
      · exact .inr (.inl (Nat.le_trans hM.size h))
      · exact .inr (hM.new j oj g c' (hσ j oj hj lj) lj pj) }
end
end Go.Ab
