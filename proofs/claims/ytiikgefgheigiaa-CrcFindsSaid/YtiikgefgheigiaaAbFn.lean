/- A function's body: how it is entered, how it returns. -/
import Derived.Test.YtiikgefgheigiaaAbAt
namespace Go.Ab
open Go.RowKit

/-- A result: a slot, or a variable's cells. -/
def resPV (P : Program) (env : Env) (σ : List AObj) : ResultVar → Option (PV × List Prop)
  | .tmp t => (env.lookup t).map fun x => (x, [])
  | .cell t ty =>
    match env.lookup t with
    | some (.ptr i off) => match aLoad P ty (.ptr i off) σ .no with
      | some out => some (out.res, out.obl)
      | none => none
    | _ => none

def resPVs (P : Program) (env : Env) (σ : List AObj) : List ResultVar → Option (List PV × List Prop)
  | [] => some ([], [])
  | r :: l => match resPV P env σ r, resPVs P env σ l with | some x, some y => some (x.1 :: y.1, x.2 ++ y.2) | _, _ => none

def tupPV : List PV → PV
  | [x] => x
  | l => .tup l

/-- What a function answers from a state: rows are settled first. -/
def retPV (P : Program) (fn : Func) (settle : List Nat) (st : St) : Option (PV × List Prop) :=
  match settleRows settle st.env st.σ with
  | some (env, σ) => match resPVs P env σ fn.results.toList with
    | some l => if (tupPV (PV.looses l.1)).isData then some (tupPV (PV.looses l.1), l.2) else none
    | none => none
  | none => none

def fnEntry (w : World) (hz : Hp) : Entry := ⟨w, hz, fun _ => False⟩

/-- How a function with data ends. -/
def Fin (P : Program) (fn : Func) (w0 : World) (hz0 : Hp) (res : PV) : Exit → Act → World → Prop :=
  bodyPost P fn fun e w' => ∃ v hz', e = .returned v ∧ RelV hz' noPhi v res ∧ (∀ g o, hz' g = some o → w'.heap[g]? = some o) ∧ Hp.le hz0 hz' ∧ (∀ g o, hz' g = some o → hz0 g = some o ∨ w0.heap.size ≤ g) ∧ Below w0.heap.size w0 w'

def argEnv : Nat → List PV → Env
  | _, [] => []
  | k, x :: l => (k, x) :: argEnv (k + 1) l

section
variable {P : Program} {fn : Func} {hz : Hp} {φ : Phi} {σ : List AObj} {env : Env} {a : Act} {w : World} {E : Entry}

theorem resPV_sound {r : ResultVar} {x : PV × List Prop} (hM : Mem E hz φ σ w) (hE : EnvRel hz φ env a) (h : resPV P env σ r = some x) (ho : ∀ p ∈ x.2, p) :
    ∃ v, (match r with | .tmp t => pure (a.tmps.getD t undef) | .cell t ty => do loadVar ty (← asAddr (a.tmps.getD t undef)) : Sem Value).run P w = .ok v w ∧ RelV hz φ v x.1 := by
  cases r with
  | tmp t =>
    simp [resPV] at h
    obtain ⟨y, hy, rfl⟩ := h
    obtain ⟨v, hv, hr⟩ := hE t y hy
    exact ⟨v, by simp [Array.getD_eq_getD_getElem?, hv], hr⟩
  | cell t ty =>
    simp only [resPV] at h
    split at h
    · rename_i i off hl
      obtain ⟨v, hv, hr⟩ := hE t _ hl
      split at h
      · rename_i out hout
        simp at h; subst h
        obtain ⟨u, hu, hru, _, _⟩ := aLoad_ok (P := P) hM hr hout ho
        cases hr with
        | ptr _ _ g c hp =>
        have e1 : a.tmps.getD t undef = .pointer (some ⟨g, off, none⟩) := by simp [Array.getD_eq_getD_getElem?, hv]
        simp only [e1, asAddr]
        refine ⟨u, ?_, hru⟩
        simpa [Instr.loadAt, Instr.sureAddr] using hu
      · cases h
    · cases h

theorem resPVs_sound : ∀ {l : List ResultVar} {x : List PV × List Prop}, Mem E hz φ σ w → EnvRel hz φ env a → resPVs P env σ l = some x → (∀ p ∈ x.2, p) →
    ∃ vs : List Value, (l.mapM (m := Sem) fun | .tmp t => pure (a.tmps.getD t undef) | .cell t ty => do loadVar ty (← asAddr (a.tmps.getD t undef))).run P w = .ok vs w ∧ vs.length = x.1.length ∧ ∀ (j : Nat) (y : PV), x.1[j]? = some y → RelV hz φ (vs.getD j undef) y
  | [], x, hM, hE, h, _ => by simp [resPVs] at h; subst h; exact ⟨[], rfl, rfl, by simp⟩
  | r :: l, x, hM, hE, h, ho => by
    simp only [resPVs] at h
    split at h
    · rename_i y z hy hz'
      simp at h; subst h
      obtain ⟨v, h1, h2⟩ := resPV_sound hM hE hy (fun p hp => ho p (List.mem_append.2 (.inl hp)))
      obtain ⟨vs, k1, k2, k3⟩ := resPVs_sound hM hE hz' (fun p hp => ho p (List.mem_append.2 (.inr hp)))
      refine ⟨v :: vs, ?_, by simp [k2], ?_⟩
      · rw [List.mapM_cons, Sem.run_bind, h1]
        simp only [Result.andThen_ok]
        rw [Sem.run_bind, k1]
        rfl
      · intro j y' hj
        match j, hj with
        | 0, hj => simp at hj; subst hj; exact h2
        | j + 1, hj => simpa using k3 j y' (by simpa using hj)
    · cases h

/-- A return. -/
theorem ret_fin {n : Nat} {st : St} {w0 : World} {hz0 : Hp} {settle : List Nat} {res : PV} {obl : List Prop} (h : retPV P fn settle st = some (res, obl)) (ho : ∀ p ∈ obl, p) :
    ∀ a w, Sim (fnEntry w0 hz0) n st a w → ∀ e, e = .ret ∨ e = .normal → Fin P fn w0 hz0 res e a w := by
  intro a w hs e he
  obtain ⟨h1, h2, hz, φ, hM, hE⟩ := hs
  unfold retPV at h
  split at h
  · rename_i env1 σ1 hset
    obtain ⟨hz1, hM1, hE1⟩ := settleRows_sound (E := fnEntry w0 hz0) (a := a) hM hE hset
    split at h
    · rename_i l hl
      split at h
      · rename_i hd
        simp at h; obtain ⟨rfl, rfl⟩ := h
        obtain ⟨vs, k1, k20, k30⟩ := resPVs_sound (P := P) (E := fnEntry w0 hz0) hM1 hE1 hl ho
        have k2 : vs.length = (PV.looses l.1).length := by rw [pvlooses_length]; exact k20
        have k3 : ∀ (j : Nat) (y : PV), (PV.looses l.1)[j]? = some y → RelV hz1 φ (vs.getD j undef) y := by
          intro j y hj
          obtain ⟨x, hx, rfl⟩ := pvlooses_get hj
          exact (k30 j x hx).loose
        clear k20 k30
        generalize PV.looses l.1 = ll at *
        have hres : ∃ v, (results fn a.tmps).run P w = .ok v w ∧ RelV hz1 φ v (tupPV ll) := by
          have hm : (fn.results.mapM (m := Sem) fun | .tmp t => pure (a.tmps.getD t undef) | .cell t ty => do loadVar ty (← asAddr (a.tmps.getD t undef))).run P w = .ok vs.toArray w := by
            rw [Array.mapM_eq_mapM_toList, map_eq_pure_bind, Sem.run_bind, k1]
            rfl
          by_cases h1' : vs.length = 1
          · match vs, ll, h1', k2, k3, hm with
            | [v], [x], _, _, k3, hm =>
              refine ⟨v, ?_, k3 0 x rfl⟩
              unfold results
              rw [Sem.run_bind]
              exact (congrArg (fun r : Result (Array Value) => r.andThen fun vs w' => Sem.run P (pure (if h : vs.size = 1 then vs[0] else Value.tuple vs)) w') hm).trans rfl
          · refine ⟨.tuple vs.toArray, ?_, ?_⟩
            · unfold results
              rw [Sem.run_bind]
              refine (congrArg (fun r : Result (Array Value) => r.andThen fun vs w' => Sem.run P (pure (if h : vs.size = 1 then vs[0] else Value.tuple vs)) w') hm).trans ?_
              simp [h1']
            · have : tupPV ll = .tup ll := by
                cases hq : ll with
                | nil => rfl
                | cons x r => cases r with
                  | nil => rw [hq] at k2; simp at k2; exact absurd k2 h1'
                  | cons y r => rfl
              rw [this]
              exact .tup _ _ (by simpa using k2) (fun j y hj => by have := k3 j y hj; simpa [List.getD, Array.getD_eq_getD_getElem?] using this)
        obtain ⟨v, hv, hr⟩ := hres
        have all : Fin P fn w0 hz0 (tupPV ll) .ret a w := by
          refine ⟨h2, v, hv, v, hz1, rfl, RelV.data (Hp.le_refl _) hr hd, hM1.knows, hM1.hle, fun g o hg => (hM1.hnew g o hg).imp id (fun h => h.resolve_right (fun h => h)), ⟨hM1.os, hM1.tape, hM1.output, hM1.size, fun k hk => hM1.kept k hk (fun h => h)⟩⟩
        rcases he with rfl | rfl
        · exact all
        · exact all
      · cases h
    · cases h
  · cases h

theorem argEnv_get : ∀ {l : List PV} {k t : Nat} {x : PV}, (argEnv k l).lookup t = some x → k ≤ t ∧ l[t - k]? = some x
  | [], k, t, x, h => by simp [argEnv] at h
  | y :: l, k, t, x, h => by
    simp only [argEnv, List.lookup] at h
    split at h
    · rename_i e
      have : t = k := by simpa using e
      subst this
      simp at h; subst h
      simp
    · rename_i e
      obtain ⟨h1, h2⟩ := argEnv_get h
      refine ⟨by omega, ?_⟩
      have : t - k = (t - (k + 1)) + 1 := by omega
      rw [this]
      simpa using h2

/-- A function is entered with data. -/
theorem DCall.intro {f : FuncId} {fn : Func} {c : Code} {args : List PV} {res : PV} (hf : P.funcs[f]? = some fn) (hb : fn.body = some c) (hn : Nat.ble args.length fn.ntmps = true)
    (h : ∀ w0 hz0, At P (fnEntry w0 hz0) fn.ntmps c (Fin P fn w0 hz0 res) ⟨argEnv 0 args, []⟩) : DCall P f args res := by
  intro w hz vals hk hs hr
  have hn := Nat.le_of_ble_eq_true hn
  refine calls_of_wp hf hb ?_
  refine h w hz _ w ⟨by simp; omega, rfl, hz, noPhi, ?_, ?_⟩
  · exact
    { knows := hk
      objs := fun i o hi => by simp at hi
      inj := fun i j oi oj g c c' hi => by simp at hi
      new := fun i o g c hi => by simp at hi
      dom := fun i _ => rfl
      os := rfl, tape := rfl, output := rfl, size := Nat.le_refl _
      kept := fun _ _ _ => rfl
      hle := Hp.le_refl _
      hnew := fun g o hg => .inl hg }
  · intro t x hx
    obtain ⟨_, hx'⟩ := argEnv_get hx
    simp at hx'
    have hl := lt_of_getL hx'
    have := hr t x hx'
    have hv : t < vals.size := by omega
    refine ⟨vals[t], ?_, ?_⟩
    · simp [Array.getElem?_append_left hv, hv]
    · simpa [Array.getD_eq_getD_getElem?, hv] using this
end
end Go.Ab
