/- One operation at what it looks at. -/
import Derived.Test.YtiikgefgheigiaaAbDraw1
namespace Go.Ab
open Go.RowKit

def SimF (E : Entry) (n : Nat) (s : SF) (a : Act) (w : World) : Prop :=
  a.tmps.size = n ∧ a.defers = [] ∧ ∃ hz φ, Mem E hz φ s.σ w ∧ ∀ t x, s.e t = some x → ∃ v, a.tmps[t]? = some v ∧ RelV hz φ v x
theorem Sim.F {E : Entry} {n : Nat} {st : St} {a : Act} {w : World} (h : Sim E n st a w) : SimF E n st.F a w := ⟨h.size, h.defers, h.mem⟩
theorem SimF.of {E : Entry} {n : Nat} {st : St} {a : Act} {w : World} (h : SimF E n st.F a w) : Sim E n st a w := ⟨h.1, h.2.1, h.2.2⟩

/-- The row that an append moves. -/
def effOf (ev : Operand → Option PV) (o : Oper) : Option Nat :=
  match o.op with
  | .call { callee := .builtin .append, args, .. } =>
    match args.toList with
    | [s, _] => match ev s with | some (.row i _) => some i | _ => none
    | _ => none
  | _ => none

def effOK (e : Option Nat) (f : Option (Nat × (Nat → PV))) : Bool := match e with | none => f.isNone | some _ => true

theorem aAppend_eff {P : Program} {t u : TypeId} {y z : PV} {σ : List AObj} {out : Out} (h : aAppend P t u y z σ = some out) : out.eff = effF (match y with | .row i _ => some i | _ => none) := by
  unfold aAppend at h
  split at h
  · split at h
    · split at h
      · split at h
        · split at h
          · split at h
            · split at h
              · simp only [Option.some.injEq] at h; subst h; rfl
              · cases h
            · cases h
          · simp only [Option.some.injEq] at h; subst h; rfl
          · cases h
        · cases h
      · cases h
    · cases h
  · cases h

theorem effOf_ok {P : Program} {ev : Operand → Option PV} {o : Oper} {σ : List AObj} {orc : Orc} {out : Out} (h : aop P ev o σ orc = some out) (he : effOK (effOf ev o) out.eff = true) : out.eff = effF (effOf ev o) := by
  cases hq : effOf ev o with
  | none => rw [hq] at he; simp [effOK] at he; rw [he]; rfl
  | some i =>
    unfold effOf at hq
    split at hq
    · rename_i args ts hop
      unfold aop at h
      rw [hop] at h
      simp only at h
      split at hq
      · rename_i s x hargs
        split at hq
        · rename_i j m hev
          simp at hq; subst hq
          split at h
          · rename_i s' x' t u h1 h2
            rw [h1] at hargs; cases hargs
            rw [hev] at h
            simp only [Option.bind_some] at h
            obtain ⟨z, hz, h⟩ := Option.bind_eq_some_iff.1 h
            exact aAppend_eff h
          · cases h
        · cases hq
      · cases hq
    · cases hq

/-- One operation, at those slots and objects that it looks at. -/
def stepD (P : Program) (n : Nat) (ops : Array Oper) (tip : Tip) (o : Oper) (env : Env) (σ : List AObj) : Option (Rec × List Prop) :=
  if dstOk n o.dst && !isSelect o.op && envB σ.length env && objsB σ.length σ then
    match wantedE ops env o with
    | some false => some (⟨o.dst, .tup [], none, [], env, [], 0, 0⟩, [])
    | some true =>
      match tip.res with
      | some res =>
        match o.op with
        | .call { callee := .value (.func f), args, .. } =>
          match evList env.eval args.toList with
          | some ps => if PV.datas ps && res.isData && callable P f then some (⟨o.dst, res, none, [], env, [], 0, 0⟩, [DCall P f (PV.looses ps) res]) else none
          | none => none
        | _ => none
      | none =>
        match aop P env.eval o σ tip.orc with
        | some out =>
          match tip.form with
          | none => if effOK (effOf env.eval o) out.eff && effIn (effOf env.eval o) σ && objsB out.σ.length out.σ && out.res.inB out.σ.length && Nat.ble σ.length out.σ.length then
              some (⟨o.dst, out.res, effOf env.eval o, over σ out.σ, env, σ, σ.length, out.σ.length⟩, out.obl) else none
          | some f => match reform out f.1 f.2 tip.obj with
            | some out => if effOK (effOf env.eval o) out.eff && effIn (effOf env.eval o) σ && objsB out.σ.length out.σ && out.res.inB out.σ.length && Nat.ble σ.length out.σ.length then
                some (⟨o.dst, out.res, effOf env.eval o, over σ out.σ, env, σ, σ.length, out.σ.length⟩, out.obl) else none
            | none => none
        | none => none
    | none => none
  else none

section
variable {P : Program} {E : Entry} {n : Nat} {s : SF} {a : Act} {w : World}

theorem apF_nil {r : Rec} {x : PV} (h1 : r.eff = none) (h2 : r.upd = []) (h3 : r.res = x) (s : SF) : r.apF s = ⟨fun t => if r.dst = some t then some x else s.e t, s.σ⟩ := by
  unfold Rec.apF
  rw [h1, h2, h3]
  congr 1
  · funext t
    split
    · rfl
    · cases s.e t <;> rfl
  · show overlay [] (s.σ.map (effA none)) = s.σ
    unfold overlay
    have : (effA none) = id := by funext o; rfl
    rw [this, List.map_id]

theorem putF {d : Option Nat} {f : Nat → Option PV} {x : PV} {v : Value} {hz : Hp} {φ : Phi} (hs : a.tmps.size = n) (hd : dstOk n d = true) (hf : ∀ t y, f t = some y → ∃ u, a.tmps[t]? = some u ∧ RelV hz φ u y) (hv : RelV hz φ v x) :
    ∀ t y, (if d = some t then some x else f t) = some y → ∃ u, (a.put d v).tmps[t]? = some u ∧ RelV hz φ u y := by
  intro t y hy
  cases d with
  | none => simp at hy; exact hf t y hy
  | some k =>
    simp [dstOk] at hd
    simp only [Act.put, Array.getElem?_setIfInBounds]
    by_cases e : k = t
    · subst e
      simp at hy; subst hy
      exact ⟨v, by simp [hs, hd], hv⟩
    · simp [e] at hy
      obtain ⟨u, hu, hr⟩ := hf t y hy
      exact ⟨u, by rw [if_neg e]; exact hu, hr⟩

theorem stepD_sound {ops : Array Oper} {tip : Tip} {o : Oper} {env : Env} {σ : List AObj} {r : Rec} {obl : List Prop} {K : Act → World → Prop} {Q : Exit → Act → World → Prop}
    (hs : SimF E n s a w) (h : stepD P n ops tip o env σ = some (r, obl)) (ho : ∀ p ∈ obl, p) (hp : Pre r s) (hK : ∀ a' w', SimF E n (r.apF s) a' w' → K a' w') :
    if Region.wanted o (yielded ops a.tmps) then o.wp P a w K Q else K (a.put o.dst undef) w := by
  obtain ⟨hsz, hdf, hz, φ, hM, hE0⟩ := hs
  unfold stepD at h
  split at h
  case isFalse => cases h
  rename_i hc
  simp only [Bool.and_eq_true, Bool.not_eq_true'] at hc
  obtain ⟨⟨⟨hd, hsel⟩, henvB⟩, hobjB⟩ := hc
  have hEL : r.env = env → EnvRel hz φ env a := fun e t x hx => hE0 t x (hp.env t x (by rw [e]; exact hx))
  split at h
  · rename_i hw
    simp only [Option.some.injEq, Prod.mk.injEq] at h; obtain ⟨rfl, rfl⟩ := h
    rw [wantedE_sound (hEL rfl) hw]
    simp only [Bool.false_eq_true, if_false]
    refine hK _ _ ?_
    rw [apF_nil rfl rfl rfl]
    exact ⟨by rw [put_size]; exact hsz, by rw [put_defers]; exact hdf, hz, φ, hM, putF hsz hd hE0 (.tup #[] [] rfl (fun j x hj => by simp at hj))⟩
  · rename_i hw
    split at h
    · rename_i res hres
      split at h
      · rename_i f args ts hop
        split at h
        · rename_i ps hps
          split at h
          · rename_i hcall
            simp only [Option.some.injEq, Prod.mk.injEq] at h; obtain ⟨rfl, rfl⟩ := h
            have hE1 := hEL rfl
            rw [wantedE_sound hE1 hw]
            simp only [if_true]
            simp at hcall
            obtain ⟨⟨hdd, hrd⟩, hca⟩ := hcall
            have hD : DCall P f (PV.looses ps) res := ho _ (by simp)
            obtain ⟨l1, l2⟩ := evList_rel hE1.eval hps
            have hrun : (execOp a.eval o).run P w = .ok (.enter f (args.map a.eval)) w := by
              have e1 : execOp a.eval o = callFunc f (#[] ++ args.map a.eval ++ #[]) := by
                unfold execOp
                rw [hop]
                rfl
              rw [e1, run_callFunc hca]
              simp
            unfold Oper.wp
            rw [hrun]
            show Calls P f (args.map a.eval) w _
            refine (hD w hz (args.map a.eval) hM.knows (by simp [l1, pvlooses_length]) (fun j x hj => ?_)).mono ?_
            · obtain ⟨x0, hj0, rfl⟩ := pvlooses_get hj
              obtain ⟨y, hy, hr⟩ := l2 j x0 hj0
              have hy' : args[j]? = some y := by simpa using hy
              have : (args.map a.eval).getD j undef = a.eval y := by simp [Array.getD_eq_getD_getElem?, hy']
              rw [this]
              exact (RelV.data (Hp.le_refl _) hr (datas_get hdd hj0)).loose
            · rintro e w' ⟨v, hz2, rfl, r1, r2, r3, r4, r5⟩
              refine hK _ _ ?_
              rw [apF_nil rfl rfl rfl]
              exact ⟨by rw [put_size]; exact hsz, by rw [put_defers]; exact hdf, hz2, φ, hM.call r2 r3 r4 r5, putF hsz hd (fun t x hx => by
                obtain ⟨u, hu, hr⟩ := hE0 t x hx
                exact ⟨u, hu, hr.mono r3 (Phi.le_refl _)⟩) (RelV.data (Hp.le_refl _) r1 hrd)⟩
          · cases h
        · cases h
      · cases h
    · split at h
      · rename_i out0 hout0
        have hex : ∃ out : Out, (r = ⟨o.dst, out.res, effOf env.eval o, over σ out.σ, env, σ, σ.length, out.σ.length⟩) ∧ (∀ hz φ σ' w' (E' : Entry) (ρ : Operand → Value), Mem E' hz φ σ w' → σ' = σ → (∀ x y, env.eval x = some y → RelV hz φ (ρ x) y) → Good P E' (execOp ρ o) w' hz φ out) ∧
            out.eff = effF (effOf env.eval o) ∧ effIn (effOf env.eval o) σ = true ∧ objsB out.σ.length out.σ = true ∧ out.res.inB out.σ.length = true ∧ σ.length ≤ out.σ.length := by
          split at h
          · split at h
            · rename_i hcc
              simp only [Bool.and_eq_true] at hcc
              obtain ⟨⟨⟨⟨c1, c2⟩, c3⟩, c4⟩, c5⟩ := hcc
              simp only [Option.some.injEq, Prod.mk.injEq] at h; obtain ⟨rfl, rfl⟩ := h
              exact ⟨out0, rfl, fun hz φ σ' w' E' ρ hm _ hev => aop_sound hm hev hout0 ho, effOf_ok hout0 c1, c2, c3, c4, Nat.le_of_ble_eq_true c5⟩
            · cases h
          · split at h
            · rename_i f _ out1 hout1
              split at h
              · rename_i hcc
                simp only [Bool.and_eq_true] at hcc
                obtain ⟨⟨⟨⟨c1, c2⟩, c3⟩, c4⟩, c5⟩ := hcc
                simp only [Option.some.injEq, Prod.mk.injEq] at h; obtain ⟨rfl, rfl⟩ := h
                obtain ⟨e1, e2, e3, e4⟩ := reform_eq hout1 ho
                refine ⟨out0, by rw [e1, e2], fun hz φ σ' w' E' ρ hm _ hev => aop_sound hm hev hout0 e4, effOf_ok hout0 (by rw [← e3]; exact c1), c2, by rw [← e2]; exact c3, by rw [← e2, ← e1]; exact c4, by rw [← e2]; exact Nat.le_of_ble_eq_true c5⟩
              · cases h
            · cases h
        clear h
        obtain ⟨out, rfl, hgood, c1, c2, c3, c4, c5⟩ := hex
        have hE1 := hEL rfl
        rw [wantedE_sound hE1 hw]
        simp only [if_true]
        have hloc : ∀ (i : Nat) (o : AObj), σ[i]? = some o → o.live = true → s.σ[i]? = some o := hp.loc
        have hMp := hM.part hloc hobjB
        obtain ⟨nx, v, w', hz2, φ2, hrun, hnx, hM2, hr, htr⟩ := hgood _ _ σ w _ a.eval hMp rfl (fun x y hx => by
          have hEc : EnvRel hz (fun i => if i < σ.length then φ i else none) env a := fun t x hx => by
            obtain ⟨v, hv, hr⟩ := hE1 t x hx
            exact ⟨v, hv, hr.cut (envB_get henvB hx)⟩
          exact hEc.eval x y hx)
        have ht : ∀ u x, RelV hz (fun i => if i < σ.length then φ i else none) u x → RelV hz2 φ2 u (effO (effOf env.eval o) x) := by
          intro u x hx
          have := htr u x hx
          rw [c1, effs_effF] at this
          exact this
        have hlen : out.σ.length ≤ s.σ.length := hp.len
        have hM3 := hM.glue hloc c5 hlen c2 hM2 ht c3 hp.freeA
        have hei : ∀ i, effOf env.eval o = some i → i < σ.length := by
          intro i hi
          rw [hi] at c2
          simp only [effIn] at c2
          split at c2
          · rename_i o ho; exact lt_of_getL ho
          · cases c2
        have fin : K (a.put o.dst v) w' := by
          refine hK _ _ ⟨by rw [put_size]; exact hsz, by rw [put_defers]; exact hdf, hz2, _, hM3, ?_⟩
          refine putF hsz hd ?_ (hr.cong c4 (fun i hi => by simp [hi]))
          intro t y hy
          obtain ⟨x, hx, rfl⟩ := Option.map_eq_some_iff.1 hy
          obtain ⟨u, hu, hru⟩ := hE0 t x hx
          exact ⟨u, hu, carry hM2.hle c5 hei ht hru (hp.free t x hx)⟩
        unfold Oper.wp
        rw [hrun]
        rcases hnx with rfl | ⟨rfl, rfl⟩
        · exact fin
        · exact fin
      · cases h
  · cases h
end
end Go.Ab
