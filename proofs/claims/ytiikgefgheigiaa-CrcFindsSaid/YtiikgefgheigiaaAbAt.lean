/- The rules. -/
import Derived.Test.YtiikgefgheigiaaAbSound
import Derived.LoopN
namespace Go.Ab
open Go.RowKit

/-- Rounds of a step that goes on, or ends. -/
def iter {S R : Type} (step : S → Option (S ⊕ R)) : Nat → S → Option R
  | 0, _ => none
  | n + 1, s => match step s with
    | some (.inl s') => iter step n s'
    | some (.inr r) => some r
    | none => none

open Classical in
noncomputable def Loop {S R : Type} (step : S → Option (S ⊕ R)) (s : S) : Option R :=
  if h : ∃ r n, iter step n s = some r then some h.choose else none

theorem Loop_some {S R : Type} {step : S → Option (S ⊕ R)} {s : S} {r : R} (h : Loop step s = some r) : ∃ n, iter step n s = some r := by
  unfold Loop at h
  split at h
  · rename_i hx
    simp at h; subst h
    exact hx.choose_spec
  · cases h

theorem iter_det {S R : Type} {step : S → Option (S ⊕ R)} : ∀ {n m : Nat} {s : S} {r r' : R}, iter step n s = some r → iter step m s = some r' → r = r'
  | 0, _, _, _, _, h, _ => by simp [iter] at h
  | _ + 1, 0, _, _, _, _, h => by simp [iter] at h
  | n + 1, m + 1, s, r, r', h, h' => by
    simp only [iter] at h h'
    split at h
    · rename_i s' hs
      rw [hs] at h'
      exact iter_det h h'
    · rename_i q hs
      rw [hs] at h'
      simp at h h'
      rw [← h, ← h']
    · cases h

theorem Loop_of {S R : Type} {step : S → Option (S ⊕ R)} {s : S} {r : R} (n : Nat) (h : iter step n s = some r) : Loop step s = some r := by
  unfold Loop
  have hx : ∃ r n, iter step n s = some r := ⟨r, n, h⟩
  rw [dif_pos hx]
  obtain ⟨m, hm⟩ := hx.choose_spec
  rw [iter_det hm h]

theorem Loop_inl {S R : Type} {step : S → Option (S ⊕ R)} {s s' : S} (h : step s = some (.inl s')) : Loop step s = Loop step s' := by
  cases hr : Loop step s' with
  | some r =>
    obtain ⟨n, hn⟩ := Loop_some hr
    exact Loop_of (n + 1) (by simp [iter, h, hn])
  | none =>
    cases hq : Loop step s with
    | none => rfl
    | some r =>
      obtain ⟨n, hn⟩ := Loop_some hq
      cases n with
      | zero => simp [iter] at hn
      | succ n =>
        simp only [iter, h] at hn
        rw [Loop_of n hn] at hr
        cases hr

theorem Loop_inr {S R : Type} {step : S → Option (S ⊕ R)} {s : S} {r : R} (h : step s = some (.inr r)) : Loop step s = some r := Loop_of 1 (by simp [iter, h])

def keepE : List Nat → Env → Env
  | [], _ => []
  | k :: r, env => match env.lookup k with
    | some x => (k, x) :: keepE r env
    | none => keepE r env

theorem lookup_filter : ∀ (ks : List Nat) (env : Env) {s : Nat} {x : PV}, (keepE ks env).lookup s = some x → env.lookup s = some x
  | [], env, s, x, h => by simp [keepE] at h
  | k :: r, env, s, x, h => by
    simp only [keepE] at h
    split at h
    · rename_i y hy
      simp only [List.lookup] at h
      split at h
      · rename_i e
        have : s = k := by simpa using e
        subst this
        rw [hy]; exact h
      · exact lookup_filter r env h
    · exact lookup_filter r env h

/- Objects that nothing kept names may be forgotten, from the end on. -/
mutual
def PV.inB (m : Nat) : PV → Bool
  | .d _ => true
  | .ptr i _ => i < m
  | .row i _ => i < m
  | .pp _ => true
  | .fn _ a b => PV.inBs m a && PV.inBs m b
  | .agg cs => PV.inBs m cs
  | .dagg _ => true
  | .tup cs => PV.inBs m cs
  | .undef => true
def PV.inBs (m : Nat) : List PV → Bool
  | [] => true
  | x :: l => PV.inB m x && PV.inBs m l
end
def AObj.inB (m : Nat) : AObj → Bool
  | .blk _ cs => PV.inBs m cs
  | _ => true
def envB (m : Nat) : Env → Bool
  | [] => true
  | p :: l => p.2.inB m && envB m l
def objsB (m : Nat) : List AObj → Bool
  | [] => true
  | o :: l => o.inB m && objsB m l

theorem inBs_get {m : Nat} : ∀ {l : List PV} {j : Nat} {x : PV}, PV.inBs m l = true → l[j]? = some x → x.inB m = true
  | [], j, x, _, h => by simp at h
  | y :: l, 0, x, hb, h => by simp [PV.inBs] at hb h; subst h; exact hb.1
  | y :: l, j + 1, x, hb, h => by simp [PV.inBs] at hb h; exact inBs_get hb.2 h
theorem envB_get {m : Nat} : ∀ {env : Env} {t : Nat} {x : PV}, envB m env = true → env.lookup t = some x → x.inB m = true
  | [], t, x, _, h => by simp at h
  | (k, y) :: l, t, x, hb, h => by
    simp [envB] at hb
    simp only [List.lookup] at h
    split at h
    · simp at h; subst h; exact hb.1
    · exact envB_get hb.2 h
theorem objsB_get {m : Nat} : ∀ {l : List AObj} {j : Nat} {o : AObj}, objsB m l = true → l[j]? = some o → o.inB m = true
  | [], j, x, _, h => by simp at h
  | y :: l, 0, x, hb, h => by simp [objsB] at hb h; subst h; exact hb.1
  | y :: l, j + 1, x, hb, h => by simp [objsB] at hb h; exact objsB_get hb.2 h

theorem RelV.cut {hz : Hp} {φ : Phi} {m : Nat} {v : Value} {x : PV} (h : RelV hz φ v x) (hb : x.inB m = true) : RelV hz (fun i => if i < m then φ i else none) v x := by
  induction h with
  | d h => exact .d h
  | ptr i off g c h => simp [PV.inB] at hb; exact .ptr i off g c (by simp [hb, h])
  | row i n g cap h hn hm => simp [PV.inB] at hb; exact .row i n g cap (by simp [hb, h]) hn hm
  | rowNil i a h => simp [PV.inB] at hb; exact .rowNil i a (by simp [hb, h])
  | pp g off cs arr e fr f hg hx hr => exact .pp g off cs arr e fr f hg hx hr
  | fn f a b c d h1 h2 _ _ i1 i2 =>
    simp [PV.inB] at hb
    exact .fn f a b c d h1 h2 (fun j x hj => i1 j x hj (inBs_get hb.1 hj)) (fun j x hj => i2 j x hj (inBs_get hb.2 hj))
  | agg cs cs' h _ ih => exact .agg cs cs' h (fun j x hj => ih j x hj (inBs_get (by simpa [PV.inB] using hb) hj))
  | dagg cs cs' h r => exact .dagg cs cs' h r
  | tup cs cs' h _ ih => exact .tup cs cs' h (fun j x hj => ih j x hj (inBs_get (by simpa [PV.inB] using hb) hj))
  | undef v => exact .undef v

section
variable {P : Program} {E : Entry} {n : Nat} {Q : Exit → Act → World → Prop} {st st' : St}

/-- What is forgotten. -/
theorem Sim.keep {a : Act} {w : World} (h : Sim E n st a w) (ks : List Nat) : Sim E n ⟨keepE ks st.env, st.σ⟩ a w := by
  obtain ⟨h1, h2, hz, φ, hM, hE⟩ := h
  exact ⟨h1, h2, hz, φ, hM, fun t x hx => hE t x (lookup_filter ks _ hx)⟩

theorem Sim.cut {a : Act} {w : World} (h : Sim E n st a w) {m : Nat} (hb : (envB m st.env && objsB m (st.σ.take m)) = true) : Sim E n ⟨st.env, st.σ.take m⟩ a w := by
  simp at hb
  obtain ⟨h1, h2, hz, φ, hM, hE⟩ := h
  refine ⟨h1, h2, hz, (fun i => if i < m then φ i else none), ?_, fun t x hx => ?_⟩
  · have hget : ∀ i o, (st.σ.take m)[i]? = some o → i < m ∧ st.σ[i]? = some o := by
      intro i o hi
      rw [List.getElem?_take] at hi
      split at hi
      · rename_i hlt; exact ⟨hlt, hi⟩
      · cases hi
    exact
    { knows := hM.knows
      objs := fun i o hi => by
        obtain ⟨hlt, hi'⟩ := hget i o hi
        have hob := objsB_get hb.2 hi
        have ho := hM.objs i o hi'
        have hp : (fun i => if i < m then φ i else none) i = φ i := by simp [hlt]
        cases o with
        | blk t cs =>
          obtain ⟨g, c, arr, e1, e2, e3, e4, e5⟩ := ho
          exact ⟨g, c, arr, by simp [hlt, e1], e2, e3, fun j x hj => (e4 j x hj).cut (inBs_get (by simpa [AObj.inB] using hob) hj), e5⟩
        | dblk t cs =>
          obtain ⟨g, c, arr, e1, e2⟩ := ho
          exact ⟨g, c, arr, by simp [hlt, e1], e2⟩
        | row e sz cs =>
          rcases ho with ⟨e1, e2⟩ | ⟨g, cap, arr, fr, e1, e2⟩
          · exact .inl ⟨by simp [hlt, e1], e2⟩
          · exact .inr ⟨g, cap, arr, fr, by simp [hlt, e1], e2⟩
        | dead => trivial
      inj := fun i j oi oj g c c' hi hj li lj pi pj => by
        obtain ⟨h1, h1'⟩ := hget i oi hi
        obtain ⟨h2, h2'⟩ := hget j oj hj
        simp [h1] at pi
        simp [h2] at pj
        exact hM.inj i j oi oj g c c' h1' h2' li lj pi pj
      new := fun i o g c hi li pi => by
        obtain ⟨h1, h1'⟩ := hget i o hi
        simp [h1] at pi
        exact hM.new i o g c h1' li pi
      dom := fun i hi => by
        by_cases h : i < m
        · simp [h]; simp at hi; exact hM.dom i (by omega)
        · simp [h]
      os := hM.os, tape := hM.tape, output := hM.output, size := hM.size, kept := hM.kept, hle := hM.hle, hnew := hM.hnew }
  · obtain ⟨v, hv, hr⟩ := hE t x hx
    exact ⟨v, hv, hr.cut (envB_get hb.1 hx)⟩

theorem At.keep (ks : List Nat) {c : Code} (h : At P E n c Q ⟨keepE ks st.env, st.σ⟩) : At P E n c Q st := fun a w hs => h a w (hs.keep ks)

/-- The end of operations: what is kept of slots and objects. -/
def fin (ks : List Nat) (m : Nat) (r : Option (Env × List AObj × List Prop)) : Option (St × List Prop) :=
  match r with
  | some (env, σ, obl) => if envB m (keepE ks env) && objsB m (σ.take m) then some (⟨keepE ks env, σ.take m⟩, obl) else none
  | none => none

theorem fin_sound {ks : List Nat} {m : Nat} {r : Option (Env × List AObj × List Prop)} {obl : List Prop} (h : fin ks m r = some (st', obl)) :
    ∃ env σ, r = some (env, σ, obl) ∧ ∀ a w, Sim E n ⟨env, σ⟩ a w → Sim E n st' a w := by
  unfold fin at h
  split at h
  · rename_i env σ obl'
    split at h
    · rename_i hb
      simp at h; obtain ⟨rfl, rfl⟩ := h
      exact ⟨env, σ, rfl, fun a w hs => (hs.keep ks).cut (m := m) hb⟩
    · cases h
  · cases h

/-- A region whose operations stand one behind the other, and what comes behind it. -/
theorem At.region {id : Nat} {ops : Array Oper} {y : Code} {tips : List (Nat × Tip)} (ks : List Nat) (m : Nat) (obl : List Prop) (h : fin ks m (runE P n ops tips 0 ops.toList st.env st.σ) = some (st', obl)) (ho : ∀ p ∈ obl, p) (hy : At P E n y Q st') :
    At P E n (.seq (.region id ops false) y) Q st := by
  obtain ⟨env, σ, hr, hs'⟩ := fin_sound (E := E) (n := n) h
  intro a w hs
  refine wp_seq (wp_region_list ?_)
  exact runE_sound ops.toList 0 hs hr ho (fun a' w' hs2 => hy a' w' (hs' a' w' hs2))

/-- The same, where the region is the last. -/
theorem At.region_end {id : Nat} {ops : Array Oper} {tips : List (Nat × Tip)} (ks : List Nat) (m : Nat) (obl : List Prop) (h : fin ks m (runE P n ops tips 0 ops.toList st.env st.σ) = some (st', obl)) (ho : ∀ p ∈ obl, p)
    (hQ : ∀ a w, Sim E n st' a w → Q .normal a w) : At P E n (.region id ops false) Q st := by
  obtain ⟨env, σ, hr, hs'⟩ := fin_sound (E := E) (n := n) h
  intro a w hs
  refine wp_region_list ?_
  exact runE_sound ops.toList 0 hs hr ho (fun a' w' hs2 => hQ a' w' (hs' a' w' hs2))

theorem At.seq {x y : Code} (h : At P E n x (Exit.then (y.wp P Q) Q) st) : At P E n (.seq x y) Q st := fun a w hs => wp_seq (h a w hs)
theorem At.skip (h : ∀ a w, Sim E n st a w → Q .normal a w) : At P E n .skip Q st := fun a w hs => wp_skip (h a w hs)
theorem At.skip_seq {y : Code} (h : At P E n y Q st) : At P E n (.seq .skip y) Q st := fun a w hs => wp_seq (wp_skip (h a w hs))
theorem At.exit {id : Nat} (h : ∀ a w, Sim E n st a w → Q (.exit id) a w) : At P E n (.exit id) Q st := fun a w hs => wp_exit (h a w hs)
theorem At.ret (h : ∀ a w, Sim E n st a w → Q .ret a w) : At P E n .ret Q st := fun a w hs => wp_ret (h a w hs)
theorem At.block {id : Nat} {c : Code} (h : At P E n c (Exit.inBlock id Q) st) : At P E n (.block id c) Q st := fun a w hs => wp_block (h a w hs)

theorem At.cond {t : Nat} {x y : Code} (b : Bool) (h : st.env.lookup t = some (.d (.bool b))) (ht : b = true → At P E n x Q st) (hf : b = false → At P E n y Q st) : At P E n (.cond (.tmp t) x y) Q st := by
  intro a w hs
  have hs' := hs
  obtain ⟨_, _, hz, φ, hM, hE⟩ := hs
  obtain ⟨v, hv, hr⟩ := hE t _ h
  have := hr.inv_bool; subst this
  have he : a.eval (.tmp t) = .bool b := by simp [Act.eval, Array.getD_eq_getD_getElem?, hv]
  exact wp_cond_split he (fun e => ht e a w hs') (fun e => hf e a w hs')

/-- Rounds: what a loop comes to. -/
theorem At.loop {S R : Type} (step : S → Option (S ⊕ R)) (f : S → St) (r : R) {c : Code} (s0 : S) (h : Loop step s0 = some r)
    (hbody : ∀ s o, step s = some o → (∀ r', o = .inr r' → r' = r) → At P E n c (Exit.then (fun a w => ∃ s', o = .inl s' ∧ Sim E n (f s') a w) Q) (f s)) : At P E n (.loop c) Q (f s0) := by
  obtain ⟨k, hk⟩ := Loop_some h
  intro a w hs
  refine wp_loop_rounds k ?_
  clear h
  induction k generalizing s0 a w with
  | zero => simp [iter] at hk
  | succ k ih =>
    rw [rounds_succ]
    simp only [iter] at hk
    split at hk
    · rename_i s' hst
      refine wp_mono (hbody s0 _ hst (fun r' e => by cases e) a w hs) ?_
      intro e a' w' hq
      cases e with
      | normal => obtain ⟨s2, e2, hs2⟩ := hq; cases e2; exact ih _ hk _ _ hs2
      | _ => exact hq
    · rename_i r' hst
      simp at hk; subst hk
      refine wp_mono (hbody s0 _ hst (fun r2 e => by cases e; rfl) a w hs) ?_
      intro e a' w' hq
      cases e with
      | normal => obtain ⟨s2, e2, hs2⟩ := hq; cases e2
      | _ => exact hq
    · cases hk

theorem At.eqv {c : Code} {st1 st2 : St} (h : st1 = st2) (h2 : At P E n c Q st2) : At P E n c Q st1 := h ▸ h2

/-- Ways that meet again. -/
theorem At.seqJ {S : Type} {x y : Code} (f : S → St) (G : S → Prop) (h1 : At P E n x (Exit.then (fun a w => ∃ s, G s ∧ Sim E n (f s) a w) Q) st) (h2 : ∀ s, G s → At P E n y Q (f s)) : At P E n (.seq x y) Q st := by
  intro a w hs
  refine wp_seq (wp_mono (h1 a w hs) ?_)
  intro e a' w' hq
  cases e with
  | normal => obtain ⟨s, hg, hs'⟩ := hq; exact h2 s hg a' w' hs'
  | _ => exact hq

/-- A nil slice from now on is a row that grows. -/
theorem At.own {c : Code} (t : Nat) (e : TypeId) (sz : Nat) (h : st.env.lookup t = some (.d (.list true 0 []))) (h2 : At P E n c Q ⟨Env.put st.env t (.row st.σ.length 0), st.σ ++ [.row e sz []]⟩) : At P E n c Q st := by
  intro a w hs
  obtain ⟨h1, h3, hz, φ, hM, hE⟩ := hs
  obtain ⟨φ', hle, hp, hM'⟩ := hM.allocNil e sz
  refine h2 a w ⟨h1, h3, hz, φ', hM', ?_⟩
  intro s x hx
  rw [lookup_put] at hx
  split at hx
  · rename_i es
    subst es
    simp at hx; subst hx
    obtain ⟨v, hv, hr⟩ := hE s _ h
    refine ⟨v, hv, ?_⟩
    have hd := relV_d hr
    cases hd with
    | list0 a cap _ ht hm =>
      have := ht rfl
      subst this
      exact .rowNil _ _ hp
    | list g off _ cap _ _ arr e2 fr f hg hn hm ht hx2 hr2 =>
      have := ht rfl
      subst this
      exact .rowNil _ _ hp
  · obtain ⟨v, hv, hr⟩ := hE s x hx
    exact ⟨v, hv, hr.mono (Hp.le_refl _) hle⟩

def ownF (t : Nat) (e : TypeId) (sz : Nat) (ks : List Nat) (st : St) : Option St :=
  match st.env.lookup t with
  | some (.d (.list true 0 [])) => some ⟨keepE ks (Env.put st.env t (.row st.σ.length 0)), st.σ ++ [.row e sz []]⟩
  | _ => none

theorem At.own2 {c : Code} (t : Nat) (e : TypeId) (sz : Nat) (ks : List Nat) (h : ownF t e sz ks st = some st') (h2 : At P E n c Q st') : At P E n c Q st := by
  unfold ownF at h
  split at h
  · rename_i hl
    simp at h; subst h
    exact At.own t e sz hl (At.keep ks h2)
  · cases h
end
end Go.Ab
