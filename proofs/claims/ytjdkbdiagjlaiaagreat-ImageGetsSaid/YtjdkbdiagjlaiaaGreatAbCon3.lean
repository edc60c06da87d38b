/- Calls of data, run through: regions, code, functions. -/
import Derived.Test.YtjdkbdiagjlaiaaGreatAbCon2
import Derived.Test.YtjdkbdiagjlaiaaGreatAbEqb
namespace Go.Ab
open Go.RowKit

/-! ### values reckoned to the end -/
section
variable {α : Type}
def seqN (n : Nat) (k : Nat → α) : α := match n with | 0 => k 0 | m + 1 => k (Nat.succ m)
theorem seqN_eq (n : Nat) (k : Nat → α) : seqN n k = k n := by cases n <;> rfl
def seqI (n : Int) (k : Int → α) : α := match n with | .ofNat m => seqN m fun m => k (.ofNat m) | .negSucc m => seqN m fun m => k (.negSucc m)
theorem seqI_eq (n : Int) (k : Int → α) : seqI n k = k n := by cases n <;> simp [seqI, seqN_eq]
def seqB (b : Bool) (k : Bool → α) : α := match b with | true => k true | false => k false
theorem seqB_eq (b : Bool) (k : Bool → α) : seqB b k = k b := by cases b <;> rfl
def seqL {β : Type} : List β → (List β → α) → α
  | [], k => k []
  | x :: l, k => seqL l fun l => k (x :: l)
theorem seqL_eq {β : Type} : ∀ (l : List β) (k : List β → α), seqL l k = k l
  | [], _ => rfl
  | _ :: l, _ => seqL_eq l _
def seqS (s : ByteArray) (k : ByteArray → α) : α := seqL s.data.toList fun l => k ⟨⟨l⟩⟩
theorem seqS_eq (s : ByteArray) (k : ByteArray → α) : seqS s k = k s := by simp [seqS, seqL_eq]
mutual
def seqD : D → (D → α) → α
  | .int k n, c => seqI n fun n => c (.int k n)
  | .bool b, c => seqB b fun b => c (.bool b)
  | .str s, c => seqS s fun s => c (.str s)
  | .list t n xs, c => seqB t fun t => seqN n fun n => seqDs xs fun xs => c (.list t n xs)
  | .nilP, c => c .nilP
  | .nilF, c => c .nilF
def seqDs : List D → (List D → α) → α
  | [], c => c []
  | x :: l, c => seqD x fun x => seqDs l fun l => c (x :: l)
end
mutual
theorem seqD_eq : ∀ (x : D) (c : D → α), seqD x c = c x
  | .int k n, c => by simp [seqD, seqI_eq]
  | .bool b, c => by simp [seqD, seqB_eq]
  | .str s, c => by simp [seqD, seqS_eq]
  | .list t n xs, c => by simp [seqD, seqB_eq, seqN_eq, seqDs_eq]
  | .nilP, c => rfl
  | .nilF, c => rfl
theorem seqDs_eq : ∀ (l : List D) (c : List D → α), seqDs l c = c l
  | [], c => rfl
  | x :: l, c => by simp [seqDs, seqD_eq x, seqDs_eq l]
end
mutual
def seqP : PV → (PV → α) → α
  | .d x, c => seqD x fun x => c (.d x)
  | .ptr i o, c => seqN i fun i => seqN o fun o => c (.ptr i o)
  | .row i n, c => seqN i fun i => seqN n fun n => c (.row i n)
  | .view i o n, c => c (.view i o n)
  | .yld i, c => c (.yld i)
  | .mapv i, c => c (.mapv i)
  | .pp cs, c => seqDs cs fun cs => c (.pp cs)
  | .fn f a b, c => seqPs a fun a => seqPs b fun b => c (.fn f a b)
  | .agg cs, c => seqPs cs fun cs => c (.agg cs)
  | .dagg cs, c => seqDs cs fun cs => c (.dagg cs)
  | .tup cs, c => seqPs cs fun cs => c (.tup cs)
  | .undef, c => c .undef
def seqPs : List PV → (List PV → α) → α
  | [], c => c []
  | x :: l, c => seqP x fun x => seqPs l fun l => c (x :: l)
end
mutual
theorem seqP_eq : ∀ (x : PV) (c : PV → α), seqP x c = c x
  | .d x, c => by simp [seqP, seqD_eq]
  | .ptr i o, c => by simp [seqP, seqN_eq]
  | .row i o, c => by simp [seqP, seqN_eq]
  | .view i o n, c => rfl
  | .yld i, c => rfl
  | .mapv i, c => rfl
  | .pp cs, c => by simp [seqP, seqDs_eq]
  | .fn f a b, c => by simp [seqP, seqPs_eq a, seqPs_eq b]
  | .agg cs, c => by simp [seqP, seqPs_eq cs]
  | .dagg cs, c => by simp [seqP, seqDs_eq]
  | .tup cs, c => by simp [seqP, seqPs_eq cs]
  | .undef, c => rfl
theorem seqPs_eq : ∀ (l : List PV) (c : List PV → α), seqPs l c = c l
  | [], c => rfl
  | x :: l, c => by simp [seqPs, seqP_eq x, seqPs_eq l]
end
def seqO : AObj → (AObj → α) → α
  | .blk t cs, c => seqPs cs fun cs => c (.blk t cs)
  | .dblk t cs, c => seqDs cs fun cs => c (.dblk t cs)
  | .row e n cs, c => seqDs cs fun cs => c (.row e n cs)
  | o, c => c o
theorem seqO_eq (o : AObj) (c : AObj → α) : seqO o c = c o := by cases o <;> simp [seqO, seqPs_eq, seqDs_eq]
def seqσ : List AObj → (List AObj → α) → α
  | [], c => c []
  | x :: l, c => seqO x fun x => seqσ l fun l => c (x :: l)
theorem seqσ_eq : ∀ (l : List AObj) (c : List AObj → α), seqσ l c = c l
  | [], c => rfl
  | x :: l, c => by simp [seqσ, seqO_eq, seqσ_eq l]
def seqE : Env → (Env → α) → α
  | [], c => c []
  | (t, x) :: l, c => seqN t fun t => seqP x fun x => seqE l fun l => c ((t, x) :: l)
theorem seqE_eq : ∀ (l : Env) (c : Env → α), seqE l c = c l
  | [], c => rfl
  | (t, x) :: l, c => by simp [seqE, seqN_eq, seqP_eq, seqE_eq l]
end

/-! ### rows and objects that values name -/
mutual
def PV.ixs : PV → List Nat → List Nat
  | .ptr i _, l => if l.contains i then l else i :: l
  | .row i _, l => if l.contains i then l else i :: l
  | .view i _ _, l => if l.contains i then l else i :: l
  | .mapv i, l => if l.contains i then l else i :: l
  | .agg cs, l => PV.ixss cs l
  | .tup cs, l => PV.ixss cs l
  | .fn _ a b, l => PV.ixss a (PV.ixss b l)
  | _, l => l
def PV.ixss : List PV → List Nat → List Nat
  | [], l => l
  | x :: r, l => PV.ixs x (PV.ixss r l)
end
def valsOf (env : Env) : List Nat → List PV
  | [] => []
  | t :: l => match env.lookup t with | some x => x :: valsOf env l | none => valsOf env l
/-- What an operation's slots name. -/
def namedBy (ops : Array Oper) (env : Env) (o : Oper) : List Nat := PV.ixss (valsOf env (slotsOf ops o)) []
def rowIx (σ : List AObj) (l : List Nat) : List Nat := l.filter fun i => match σ[i]? with | some (.row _ _ _) => true | _ => false

/-! ### calls -/
/-- A call with objects whose outcome is known. -/
structure Ent where
  f : FuncId
  A : List PV
  S : List AObj
  res : PV
  σ' : List AObj
  e : List Nat
abbrev Tbl := List Ent
def TblOK (P : Program) (tbl : Tbl) : Prop := ∀ t ∈ tbl, FnOK P t.f t.A t.S t.res t.σ' t.e
def findE (f : FuncId) (A : List PV) (S : List AObj) : Tbl → Option Ent
  | [] => none
  | t :: l => if Nat.beq t.f f && (PV.eqbs t.A A && AObj.eqbs t.S S) then some t else findE f A S l
theorem findE_ok {P : Program} {f : FuncId} {A : List PV} {S : List AObj} : ∀ {tbl : Tbl} {t : Ent}, TblOK P tbl → findE f A S tbl = some t → FnOK P f A S t.res t.σ' t.e
  | [], t, _, h => by cases h
  | x :: l, t, hk, h => by
    simp only [findE] at h
    split at h
    · rename_i hc
      cases h
      simp only [Bool.and_eq_true] at hc
      rw [← Nat.eq_of_beq_eq_true hc.1, ← PV.eqbs_ok hc.2.1, ← AObj.eqbs_ok hc.2.2]
      exact hk x (by simp)
    · exact findE_ok (fun y hy => hk y (by simp [hy])) h
/-- What a call of data answers: its value, and the rows that are new. -/
abbrev CallF := (Bool → FuncId → List PV → Option (PV × List AObj)) × Tbl
def CallOK (P : Program) (call : CallF) : Prop := (∀ b f args r, call.1 b f args = some r → FnOK P f args [] r.1 r.2 []) ∧ TblOK P call.2
/-- The objects that are reached. -/
def objIx : AObj → List Nat → List Nat
  | .blk _ cs, l => PV.ixss cs l
  | .mp _ vs, l => PV.ixss vs l
  | _, l => l
def reach1 (σ : List AObj) : List Nat → List Nat → List Nat
  | [], acc => acc
  | i :: l, acc => reach1 σ l (match σ[i]? with | some o => objIx o acc | none => acc)
def reach (σ : List AObj) : Nat → List Nat → List Nat
  | 0, l => l
  | k + 1, l => reach σ k (reach1 σ l l)

/-- Rows among the arguments become data ahead of the call. -/
theorem FnOK.rows {P : Program} {f : FuncId} {pc : PC} {args : List PV} {σ0 σd : List AObj} {ids : List Nat} {env' : Env} {out : PCOut} (hs : settleRows ids (argEnv 0 args) σ0 = some (env', σd)) (hl : env' = argEnv 0 (env'.map fun q => q.2)) (hn : Nat.beq (env'.map fun q => q.2).length args.length = true)
    (hc : pcCore pc (env'.map fun q => q.2) σd = some out) (h : FnOK P f out.args out.σ pc.res pc.σ' pc.e) : FnOK P f args σ0 out.res out.σb out.eb := by
  intro w hz own φ vals hM hv
  have hE : EnvRel hz φ (argEnv 0 args) ⟨vals, []⟩ := by
    intro t x hx
    obtain ⟨_, hx'⟩ := argEnv_get hx
    simp at hx'
    have hlt := lt_of_getL hx'
    have hvs : t < vals.size := by rw [hv.1]; exact hlt
    refine ⟨vals[t], by simp [hvs], ?_⟩
    have := hv.2 t x hx'
    simpa [Array.getD_eq_getD_getElem?, hvs] using this
  obtain ⟨hz', hM', hE'⟩ := settleRows_sound hM hE hs
  have hle : Hp.le hz hz' := hM'.hle
  have hM2 : Mem ⟨w, hz', own⟩ hz' φ σd w :=
    { knows := hM'.knows, objs := hM'.objs, inj := hM'.inj, new := hM'.new, dom := hM'.dom, caps := hM'.caps, os := hM'.os, tape := hM'.tape, output := hM'.output, size := hM'.size, kept := hM'.kept
      hle := Hp.le_refl _, hnew := fun g o hg => .inl hg }
  have hv2 : RelL hz' φ vals (env'.map fun q => q.2) := by
    refine ⟨by rw [hv.1]; exact (Nat.eq_of_beq_eq_true hn).symm, fun j x hx => ?_⟩
    have hlk : env'.lookup j = some x := by
      rw [hl]
      have key : ∀ (l : List PV) (k j : Nat) (x : PV), l[j]? = some x → (argEnv k l).lookup (k + j) = some x := by
        intro l
        induction l with
        | nil => intro k j x h; simp at h
        | cons y l ih =>
          intro k j x h
          cases j with
          | zero => simp at h; subst h; simp [argEnv]
          | succ j =>
            have := ih (k + 1) j x (by simpa using h)
            simp only [argEnv, List.lookup_cons]
            rw [show ((k + (j + 1)) == k) = false by simp, show k + (j + 1) = k + 1 + j by omega]
            exact this
      have := key _ 0 j x hx
      rwa [Nat.zero_add] at this
    obtain ⟨v, hvv, hr⟩ := hE' j x hlk
    have e : vals[j]? = some v := hvv
    rw [Array.getD_eq_getD_getElem?, e]; exact hr
  refine (FnOK.use hc h hM2 hv2).mono ?_
  rintro en w' ⟨v, hz2, φ2, rfl, k1, k2, k3⟩
  refine ⟨v, hz2, φ2, rfl, k1, ?_, fun u x hx => k3 u x (hx.mono hle (Phi.le_refl _))⟩
  exact { knows := k2.knows, objs := k2.objs, inj := k2.inj, new := k2.new, dom := k2.dom, caps := k2.caps, os := k2.os, tape := k2.tape, output := k2.output, size := k2.size, kept := k2.kept
          hle := Hp.le_trans hle k2.hle
          hnew := fun g o hg => by
            rcases k2.hnew g o hg with h | h
            · exact hM'.hnew g o h
            · exact .inr h }

/-- The slots of arguments, in order. -/
def isArgs : Nat → Env → Bool
  | _, [] => true
  | k, (t, _) :: l => Nat.beq t k && isArgs (k + 1) l
theorem isArgs_eq : ∀ {k : Nat} {env : Env}, isArgs k env = true → env = argEnv k (env.map fun q => q.2)
  | _, [], _ => rfl
  | k, (t, x) :: l, h => by
    simp only [isArgs, Bool.and_eq_true] at h
    have := Nat.eq_of_beq_eq_true h.1
    subst this
    simp only [List.map_cons, argEnv]
    rw [← isArgs_eq h.2]

/-- The arguments of a call, with the rows among them. -/
def cArgs (ids : List Nat) (args : List PV) (σ : List AObj) : Option (List PV × List AObj) :=
  match PV.rens (ixOf ids) (PV.los args), projσ ids (losA σ) with
  | some A, some S => some (A, S)
  | _, _ => none
/-- Arguments of data, and rows. -/
def cPd (call : CallF) (b : Bool) (f : FuncId) (args : List PV) (σ : List AObj) : Option PC :=
  match cArgs (rowIx σ (PV.ixss args [])) args σ with
  | some (A, S) =>
    match settleRows (List.range (rowIx σ (PV.ixss args [])).length) (argEnv 0 A) S with
    | some (env', σd) =>
      if isArgs 0 env' && Nat.beq (env'.map fun q => q.2).length A.length then
        match PV.rens (ixOf []) (PV.los (env'.map fun q => q.2)) with
        | some a =>
          match (seqPs a fun a => call.1 b f a) with
          | some r =>
            match pcCore { ρ := List.range' σd.length r.2.length, n0 := 0, res := r.1, σ' := r.2, e := [], loose := true } (env'.map fun q => q.2) σd with
            | some out => some { ρ := rowIx σ (PV.ixss args []) ++ List.range' σ.length r.2.length, n0 := (rowIx σ (PV.ixss args [])).length, res := out.res, σ' := out.σb, e := out.eb, loose := true }
            | none => none
          | none => none
        | none => none
      else none
    | none => none
  | none => none
/-- Arguments with objects: a call of the table. -/
def cPt (call : CallF) (f : FuncId) (args : List PV) (σ : List AObj) : Option PC :=
  match cArgs (reach σ 6 (PV.ixss args [])) args σ with
  | some (A, S) =>
    match findE f A S call.2 with
    | some t => some { ρ := reach σ 6 (PV.ixss args []) ++ List.range' σ.length (t.σ'.length - (reach σ 6 (PV.ixss args [])).length), n0 := (reach σ 6 (PV.ixss args [])).length, res := t.res, σ' := t.σ', e := t.e, loose := true }
    | none => none
  | none => none
def cPc (call : CallF) (b : Bool) (env : Env) (o : Oper) (σ : List AObj) : Option PC :=
  match o.op with
  | .call { callee := .value cl, args, .. } =>
    match env.eval cl, evList env.eval args.toList with
    | some (.fn (.func f) first caps), some ps =>
      (match cPd call b f (first ++ ps ++ caps) σ with
      | some pc => some pc
      | none => cPt call f (first ++ ps ++ caps) σ)
    | _, _ => none
  | _ => none
/-- The objects that a call reaches. -/
def callIx (env : Env) (o : Oper) (σ : List AObj) : List Nat :=
  match o.op with
  | .call { callee := .value cl, args, .. } =>
    (match env.eval cl, evList env.eval args.toList with
    | some (.fn (.func _) first caps), some ps => reach σ 6 (PV.ixss (first ++ ps ++ caps) [])
    | _, _ => [])
  | _ => []
def isCallV : Op → Bool
  | .call { callee := .value _, .. } => true
  | _ => false

section
variable {P : Program} {call : CallF}
theorem pcCore_args {pc : PC} {args : List PV} {σL : List AObj} {out : PCOut} (h : pcCore pc args σL = some out) (hl : pc.loose = true) : cArgs (pc.ρ.take pc.n0) args σL = some (out.args, out.σ) := by
  unfold pcCore at h
  split at h
  · split at h
    · rename_i a s r sb eb e1 e2 e3 e4 e5
      cases h
      unfold cArgs
      rw [e1, e2]
    · cases h
  · cases h

theorem cPd_ok (hk : CallOK P call) {b : Bool} {f : FuncId} {args : List PV} {σ : List AObj} {pc : PC} {out : PCOut} (h : cPd call b f args σ = some pc) (hp : pcCore pc args σ = some out) : FnOK P f out.args out.σ pc.res pc.σ' pc.e := by
  unfold cPd at h
  split at h
  · rename_i A S hA
    split at h
    · rename_i env' σd hset
      split at h
      · rename_i hcond
        simp only [Bool.and_eq_true] at hcond
        split at h
        · rename_i a ha
          rw [seqPs_eq] at h
          split at h
          · rename_i r hr
            split at h
            · rename_i out1 hp1
              cases h
              have hfn : FnOK P f A S out1.res out1.σb out1.eb := by
                refine FnOK.rows hset (isArgs_eq hcond.1) hcond.2 hp1 ?_
                have := pcCore_args hp1 rfl
                simp only [List.take_zero] at this
                unfold cArgs at this
                rw [ha] at this
                split at this
                · rename_i A' S' e1 e2
                  cases e1
                  simp only [Option.some.injEq, Prod.mk.injEq] at this
                  obtain ⟨rfl, rfl⟩ := this
                  simp only [projσ, projGo, Option.some.injEq] at e2
                  rw [← e2]
                  exact hk.1 b f _ r hr
                · cases this
              have := pcCore_args hp rfl
              simp only [List.take_left'] at this
              rw [hA] at this
              simp only [Option.some.injEq, Prod.mk.injEq] at this
              rw [← this.1, ← this.2]
              exact hfn
            · cases h
          · cases h
        · cases h
      · cases h
    · cases h
  · cases h
theorem cPt_ok (hk : CallOK P call) {f : FuncId} {args : List PV} {σ : List AObj} {pc : PC} {out : PCOut} (h : cPt call f args σ = some pc) (hp : pcCore pc args σ = some out) : FnOK P f out.args out.σ pc.res pc.σ' pc.e := by
  unfold cPt at h
  split at h
  · rename_i A S hA
    split at h
    · rename_i t ht
      cases h
      have := pcCore_args hp rfl
      simp only [List.take_left'] at this
      rw [hA] at this
      simp only [Option.some.injEq, Prod.mk.injEq] at this
      rw [← this.1, ← this.2]
      exact findE_ok hk.2 ht
    · cases h
  · cases h
theorem cPc_ok (hk : CallOK P call) {env : Env} {o : Oper} {b : Bool} {σ : List AObj} {pc : PC} (h : cPc call b env o σ = some pc) {out : PCOut} {q : Prop} (hs : pcStep P pc o env σ = some (out, q)) : q := by
  unfold cPc at h
  unfold pcStep at hs
  split at h
  · rename_i cl args _ hop
    simp only [hop] at hs
    split at h
    · rename_i f first caps ps h1 h2
      simp only [h1, h2] at hs
      split at hs
      · split at hs
        · rename_i out' hp
          simp only [Option.some.injEq, Prod.mk.injEq] at hs
          obtain ⟨rfl, rfl⟩ := hs
          split at h
          · rename_i pc' hd; cases h; exact cPd_ok hk hd hp
          · exact cPt_ok hk h hp
        · cases hs
      · cases hs
    · cases h
  · cases h

theorem stepD_pc {n : Nat} {ops : Array Oper} {ms : List Nat} {s : List Nat} {pc : PC} {o : Oper} {env : Env} {σ : List AObj} {r : Rec} {p : List Prop} (h : stepD P n ops ms { settle := s, pc := some pc } o env σ = some (r, p))
    (hq : ∀ out q, pcStep P pc o env σ = some (out, q) → q) : ∀ q ∈ p, q := by
  unfold stepD at h
  split at h
  case isFalse => cases h
  split at h
  · cases h; exact all0
  · simp only at h
    split at h
    · rename_i out q hp
      split at h
      · cases h; exact allc (hq _ _ hp) all0
      · cases h
    · cases h
  · cases h

theorem stepD_op {n : Nat} {ops : Array Oper} {ms : List Nat} {s : List Nat} {o : Oper} {env : Env} {σ : List AObj} {r : Rec} {p : List Prop} (h : stepD P n ops ms { settle := s, orc := cOrc P env.eval o σ } o env σ = some (r, p))
    (hc : cChk P env.eval o σ = true) : ∀ q ∈ p, q := by
  unfold stepD at h
  split at h
  case isFalse => cases h
  split at h
  · cases h; exact all0
  · simp only at h
    split at h
    · rename_i out ha
      split at h
      · cases h; exact cop_ok ha hc
      · cases h
    · cases h
  · cases h

theorem stepD_un {n : Nat} {ops : Array Oper} {ms : List Nat} {tip : Tip} {o : Oper} {env : Env} {σ : List AObj} {r : Rec} {p : List Prop} (h : stepD P n ops ms tip o env σ = some (r, p)) (hw : wantedE ops env o = some false) : ∀ q ∈ p, q := by
  unfold stepD at h
  split at h
  case isFalse => cases h
  rw [hw] at h
  cases h; exact all0

theorem stepE_un {n : Nat} {ops : Array Oper} {ms : List Nat} {tip : Tip} {o : Oper} {env env' : Env} {σ σ' : List AObj} {p : List Prop} (h : stepE P n ops ms tip o env σ = some (env', σ', p)) (hw : wantedE ops env o = some false) : ∀ q ∈ p, q := by
  unfold stepE at h
  split at h
  case isFalse => cases h
  rw [hw] at h
  cases h; exact all0

theorem stepE_op {n : Nat} {ops : Array Oper} {ms : List Nat} {s : List Nat} {o : Oper} {env env' env2 : Env} {σ σ' σ2 : List AObj} {p : List Prop} (hs : settleRows s env σ = some (env2, σ2)) (h : stepE P n ops ms { settle := s, orc := cOrc P env2.eval o σ2 } o env σ = some (env', σ', p))
    (hw : wantedE ops env o = some true) (hc : cChk P env2.eval o σ2 = true) : ∀ q ∈ p, q := by
  unfold stepE at h
  split at h
  case isFalse => cases h
  simp only [hw, hs] at h
  split at h
  · split at h
    · rename_i out ha
      split at h
      · cases h; exact cop_ok ha hc
      · cases h
    · cases h
  · cases h

/-- One operation of a region in order. -/
def cOp (P : Program) (n : Nat) (ops : Array Oper) (call : CallF) (s : List Nat) (o : Oper) (env : Env) (σ : List AObj) : Option (Env × List AObj) :=
  match wantedE ops env o with
  | some false => (stepN P n ops [] {} o env σ).map fun r => (r.1, r.2.1)
  | some true =>
    match settleRows s env σ with
    | some (env2, σ2) =>
      if isCallV o.op then
        match cPc call false (keepE (slotsOf ops o) env2) o (maskσ (callIx (keepE (slotsOf ops o) env2) o σ2) 0 σ2) with
        | some pc => if eqN (pc.ρ.take pc.n0) (callIx (keepE (slotsOf ops o) env2) o σ2) then (stepN P n ops [] { settle := s, pc := some pc } o env σ).map fun r => (r.1, r.2.1) else none
        | none => none
      else if cChk P env2.eval o σ2 then (stepN P n ops [] { settle := s, orc := cOrc P env2.eval o σ2 } o env σ).map fun r => (r.1, r.2.1)
      else none
    | none => none
  | none => none

theorem cOp_ok (hk : CallOK P call) {n : Nat} {ops : Array Oper} {s : List Nat} {o : Oper} {env : Env} {σ : List AObj} {r : Env × List AObj} (h : cOp P n ops call s o env σ = some r) :
    ∃ tip p, stepN P n ops [] tip o env σ = some (r.1, r.2, p) ∧ ∀ q ∈ p, q := by
  unfold cOp at h
  split at h
  · rename_i hw
    obtain ⟨⟨e, s', p⟩, hs, rfl⟩ := Option.map_eq_some_iff.1 h
    exact ⟨_, p, hs, stepE_un (show stepE P n ops [] {} o env σ = some (e, s', p) from hs) hw⟩
  · rename_i hw
    split at h
    · rename_i env2 σ2 hset
      split at h
      · split at h
        · rename_i pc hpc
          split at h
          case isFalse => cases h
          rename_i hn0
          have hn0 := eqN_eq hn0
          obtain ⟨⟨e, s', p⟩, hs, rfl⟩ := Option.map_eq_some_iff.1 h
          refine ⟨_, p, hs, ?_⟩
          unfold stepN at hs
          simp only [hset] at hs
          split at hs
          · split at hs
            · rename_i rc p' hst
              simp only [Option.some.injEq, Prod.mk.injEq] at hs
              obtain ⟨rfl, rfl, rfl⟩ := hs
              unfold stepAt at hst
              split at hst
              · rename_i r' p'' hstep
                split at hst
                · simp only [Option.some.injEq, Prod.mk.injEq] at hst
                  obtain ⟨rfl, rfl⟩ := hst
                  simp only [hn0, List.take_left'] at hstep
                  exact stepD_pc hstep fun out q hp => cPc_ok hk hpc hp
                · cases hst
              · cases hst
            · cases hs
          · cases hs
        · cases h
      · split at h
        · rename_i hc
          obtain ⟨⟨e, s', p⟩, hs, rfl⟩ := Option.map_eq_some_iff.1 h
          exact ⟨_, p, hs, stepE_op hset (show stepE P n ops [] { settle := s, orc := cOrc P env2.eval o σ2 } o env σ = some (e, s', p) from hs) hw hc⟩
        · cases h
    · cases h
  · cases h

/-! ### a region in order -/
/-- Rows that go into a slice's literal become data ahead of it. -/
def preIx (ops : Array Oper) (env : Env) (σ : List AObj) (o : Oper) : List Nat := match o.op with | .buildSlice _ _ _ => rowIx σ (namedBy ops env o) | .call { callee := .value _, .. } => rowIx σ (namedBy ops env o) | _ => []
def cN (P : Program) (n : Nat) (ops : Array Oper) (call : CallF) : List Oper → Env → List AObj → Option (Env × List AObj)
  | [], env, σ => some (env, σ)
  | o :: rest, env, σ =>
    match cOp P n ops call (preIx ops env σ o) o env σ with
    | some r => cN P n ops call rest r.1 r.2
    | none =>
      match cOp P n ops call (rowIx σ (namedBy ops env o)) o env σ with
      | some r => cN P n ops call rest r.1 r.2
      | none => none

theorem runN_skip {n : Nat} {ops : Array Oper} {k : Nat} {tip : Tip} {tips : List (Nat × Tip)} : ∀ (l : List Oper) (j : Nat) (env : Env) (σ : List AObj), k < j → runN P n ops [] ((k, tip) :: tips) j l env σ = runN P n ops [] tips j l env σ
  | [], _, _, _, _ => rfl
  | o :: l, j, env, σ, h => by
    have hne : (j == k) = false := by simp; omega
    simp only [runN, List.lookup_cons, hne]
    cases stepN P n ops [] ((List.lookup j tips).getD {}) o env σ with
    | none => rfl
    | some x => simp only [runN_skip l (j + 1) _ _ (show k < j + 1 by omega)]

theorem cN_ok (hk : CallOK P call) {n : Nat} {ops : Array Oper} : ∀ (l : List Oper) (k : Nat) {env : Env} {σ : List AObj} {r : Env × List AObj}, cN P n ops call l env σ = some r → ∃ tips p, runN P n ops [] tips k l env σ = some (r.1, r.2, p) ∧ ∀ q ∈ p, q
  | [], k, env, σ, r, h => by
    simp only [cN, Option.some.injEq] at h; subst h
    exact ⟨[], [], rfl, all0⟩
  | o :: rest, k, env, σ, r, h => by
    have step : ∀ {s : List Nat} {r1 : Env × List AObj}, cOp P n ops call s o env σ = some r1 → cN P n ops call rest r1.1 r1.2 = some r → ∃ tips p, runN P n ops [] tips k (o :: rest) env σ = some (r.1, r.2, p) ∧ ∀ q ∈ p, q := by
      intro s r1 h1 h2
      obtain ⟨tip, p, hs, hp⟩ := cOp_ok hk h1
      obtain ⟨tips, q, hr, hq⟩ := cN_ok hk rest (k + 1) h2
      refine ⟨(k, tip) :: tips, p ++ q, ?_, fun x hx => ?_⟩
      · simp only [runN, List.lookup_cons, beq_self_eq_true, Option.getD_some, hs]
        rw [runN_skip rest (k + 1) _ _ (by omega), hr]
      · rcases List.mem_append.1 hx with h | h
        · exact hp x h
        · exact hq x h
    simp only [cN] at h
    split at h
    · rename_i r1 h1; exact step h1 h
    · split at h
      · rename_i r1 h1; exact step h1 h
      · cases h

/-! ### a region that draws its order -/
/-- The objects that an operation looks at. -/
def opIx (env : Env) (o : Oper) : List Nat :=
  match o.op with
  | .load _ a => (match env.eval a with | some x => PV.ixs x [] | none => [])
  | .store _ a _ => (match env.eval a with | some x => PV.ixs x [] | none => [])
  | .slice _ x _ _ _ => (match env.eval x with | some x => PV.ixs x [] | none => [])
  | .convert _ _ x => (match env.eval x with | some x => PV.ixs x [] | none => [])
  | .call { callee := .builtin .append, args, .. } => (match evList env.eval args.toList with | some l => PV.ixss l [] | none => [])
  | .call { callee := .value _, args, .. } => (match evList env.eval args.toList with | some l => PV.ixss l [] | none => [])
  | _ => []
/-- Is a slot handed to a call of the same region? -/
def hands (t : Nat) : List Oper → Bool
  | [] => false
  | o :: l => (match o.op with | .call { callee := .value _, args, .. } => args.toList.any fun x => (match x with | .tmp u => Nat.beq t u | _ => false) | _ => false) || hands t l
def asData (ops : Array Oper) (o : Oper) : Nat → Bool
  | 0 => (match o.dst with | some t => hands t ops.toList | none => false)
  | 1 => true
  | _ => false
def cTd (P : Program) (ops : Array Oper) (call : CallF) (b : Nat) (o : Oper) (st : St) (r : Nat) : Option TipD :=
  match wantedE ops (keepE (slotsOf ops o) st.env) o with
  | some false => some { r := r }
  | some true =>
    if isCallV o.op then (cPc call (asData ops o b) (keepE (slotsOf ops o) st.env) o (maskσ (callIx (keepE (slotsOf ops o) st.env) o (st.σ.take r)) 0 (st.σ.take r))).map fun pc => { tip := { pc := some pc }, T := callIx (keepE (slotsOf ops o) st.env) o (st.σ.take r), r := r }
    else if cChk P (Env.eval (keepE (slotsOf ops o) st.env)) o (maskσ (opIx st.env o) 0 (st.σ.take r)) then
      some { tip := { orc := cOrc P (Env.eval (keepE (slotsOf ops o) st.env)) o (maskσ (opIx st.env o) 0 (st.σ.take r)) }, T := opIx st.env o, r := r }
    else none
  | none => none
theorem cTd_ok (hk : CallOK P call) {n : Nat} {ops : Array Oper} {o : Oper} {st : St} {r : Nat} {b : Nat} {td : TipD} (h : cTd P ops call b o st r = some td) {rc : Rec} {p : List Prop} (hs : stepAt P n ops [] td o st = some (rc, p)) : ∀ q ∈ p, q := by
  unfold stepAt at hs
  split at hs
  · rename_i r' p' hstep
    split at hs
    · simp only [Option.some.injEq, Prod.mk.injEq] at hs
      obtain ⟨rfl, rfl⟩ := hs
      unfold cTd at h
      split at h
      · rename_i hw; exact stepD_un hstep hw
      · split at h
        · obtain ⟨pc, hpc, rfl⟩ := Option.map_eq_some_iff.1 h
          exact stepD_pc hstep fun out q hp => cPc_ok hk hpc hp
        · split at h
          · rename_i hc
            cases h
            exact stepD_op hstep hc
          · cases h
      · cases h
    · cases hs
  · cases hs

def cD (P : Program) (n : Nat) (ops : Array Oper) (call : CallF) (b : Nat) (st0 : St) : Nat → List Oper → List Nat → List Rec → Nat → Option (List Rec)
  | _, [], _, rs, _ => some rs
  | k, o :: rest, ms, rs, r =>
    match cTd P ops call b o (replay (maskOf ms o.after.toList 0) 0 rs st0) r with
    | some td =>
      match stepAt P n ops [] td o (replay (maskOf ms o.after.toList 0) 0 rs st0) with
      | some (rc, _) =>
        if edgesLt k o.after.toList && pairs (maskOf ms o.after.toList 0) rc 0 rs then
          seqP rc.res fun x => cD P n ops call b st0 (k + 1) rest (ms ++ [maskOf ms o.after.toList 0]) (rs ++ [{ rc with res := x }]) (max r rc.hi)
        else none
      | none => none
    | none => none

theorem runD_skip {n : Nat} {ops : Array Oper} {k : Nat} {td : TipD} {tips : List (Nat × TipD)} {st0 : St} : ∀ (l : List Oper) (j : Nat) (ms : List Nat) (rs : List Rec), k < j → runD P n ops [] ((k, td) :: tips) st0 j l ms rs = runD P n ops [] tips st0 j l ms rs
  | [], _, _, _, _ => rfl
  | o :: l, j, ms, rs, h => by
    have hne : (j == k) = false := by simp; omega
    simp only [runD, List.lookup_cons, hne]
    cases stepAt P n ops [] ((List.lookup j tips).getD {}) o (replay (maskOf ms o.after.toList 0) 0 rs st0) with
    | none => rfl
    | some x => simp only [runD_skip l (j + 1) _ _ (show k < j + 1 by omega)]

theorem cD_ok (hk : CallOK P call) {n : Nat} {ops : Array Oper} {b : Nat} {st0 : St} : ∀ (l : List Oper) (k : Nat) {ms : List Nat} {rs rs' : List Rec} {r : Nat}, cD P n ops call b st0 k l ms rs r = some rs' → ∃ tips p, runD P n ops [] tips st0 k l ms rs = some (rs', p) ∧ ∀ q ∈ p, q
  | [], k, ms, rs, rs', r, h => by
    simp only [cD, Option.some.injEq] at h; subst h
    exact ⟨[], [], rfl, all0⟩
  | o :: rest, k, ms, rs, rs', r, h => by
    simp only [cD] at h
    split at h
    · rename_i td htd
      split at h
      · rename_i rc p hst
        split at h
        · rename_i hc
          rw [seqP_eq] at h
          obtain ⟨tips, q, hr, hq⟩ := cD_ok hk rest (k + 1) h
          refine ⟨(k, td) :: tips, p ++ q, ?_, fun x hx => ?_⟩
          · simp only [runD, List.lookup_cons, beq_self_eq_true, Option.getD_some, hst]
            rw [if_pos hc, runD_skip rest (k + 1) _ _ (by omega), hr]
          · rcases List.mem_append.1 hx with h | h
            · exact cTd_ok hk htd hst x h
            · exact hq x h
        · cases h
      · cases h
    · cases h
end

/-! ### code -/
def cRN (P : Program) (n : Nat) (call : CallF) (ops : Array Oper) (st : St) : Option St :=
  match cN P n ops call ops.toList st.env st.σ with
  | some r => if eqN (marksOf r.2) [] && eqN (marksOf st.σ) [] then some ⟨r.1, r.2⟩ else none
  | none => none
theorem cRN_ok {P : Program} {call : CallF} (hk : CallOK P call) {ro : Option Nat} {E : Entry} {n id : Nat} {ops : Array Oper} {Q : Exit → Act → World → Prop} {st st' : St} (h : cRN P n call ops st = some st')
    (hQ : ∀ a w, Sim E n st' a w → Q .normal a w) : At P ro E n (.region id ops false) Q st := by
  unfold cRN at h
  split at h
  · rename_i r hr
    split at h
    · rename_i hm
      cases h
      simp only [Bool.and_eq_true] at hm
      obtain ⟨tips, p, hrun, ho⟩ := cN_ok hk ops.toList 0 hr
      intro a w hs
      refine wpIn_region ?_
      have hM := hs.M
      rw [eqN_eq hm.2] at hM
      have := runN_sound (ro := ro) (Q := Q) ops.toList 0 (by simp) hM hrun ho (fun a' w' hs2 => hQ a' w' (hs2.S (eqN_eq hm.1)))
      rw [← List.range_eq_range'] at this
      simpa using this
    · cases h
  · cases h

def livIx : Nat → List AObj → List Nat
  | _, [] => []
  | i, .dead :: l => livIx (i + 1) l
  | i, _ :: l => i :: livIx (i + 1) l
def padOf (ops : Array Oper) : Nat := 2 * (ops.toList.filter fun o => match o.op with | .alloc _ | .box _ _ | .buildSlice _ _ _ | .makeSlice _ _ _ | .convert _ _ _ | .call _ => true | _ => false).length
/-- The slots that name nothing dead. -/
def ksOf (live : List Nat) : Env → List Nat
  | [] => []
  | (t, x) :: l => match x.ren (ixOf live) with | some _ => t :: ksOf live l | none => ksOf live l
def cRD (P : Program) (n : Nat) (call : CallF) (b : Nat) (ops : Array Oper) (st : St) : Option St :=
  if P.follows .mixedOrders && eqN (marksOf st.σ) [] then
    match cD P n ops call b ⟨st.env, st.σ ++ List.replicate (padOf ops) .dead⟩ 0 ops.toList [] [] st.σ.length with
    | some rs =>
      match finR (ksOf (livIx 0 (apAll rs ⟨st.env, st.σ ++ List.replicate (padOf ops) .dead⟩).σ) (apAll rs ⟨st.env, st.σ ++ List.replicate (padOf ops) .dead⟩).env) (livIx 0 (apAll rs ⟨st.env, st.σ ++ List.replicate (padOf ops) .dead⟩).σ) (marksOf st.σ) (some ((apAll rs ⟨st.env, st.σ ++ List.replicate (padOf ops) .dead⟩).env, (apAll rs ⟨st.env, st.σ ++ List.replicate (padOf ops) .dead⟩).σ, [])) with
      | some r => some r.1
      | none => none
    | none => none
  else none
theorem finR_obl {ks ρ ms : List Nat} {e : Env} {s : List AObj} {p q : List Prop} {st : St} (h : finR ks ρ ms (some (e, s, p)) = some (st, q)) (p' : List Prop) : finR ks ρ ms (some (e, s, p')) = some (st, p') := by
  unfold finR at h ⊢
  simp only at h ⊢
  split at h
  · rename_i hm
    rw [if_pos hm]
    split at h
    · cases h; rfl
    · cases h
  · cases h
theorem cRD_ok {P : Program} {call : CallF} (hk : CallOK P call) {ro : Option Nat} {E : Entry} {n id : Nat} {ops : Array Oper} {Q : Exit → Act → World → Prop} {st st' : St} {b : Nat} (h : cRD P n call b ops st = some st')
    (hQ : ∀ a w, Sim E n st' a w → Q .normal a w) : At P ro E n (.region id ops true) Q st := by
  unfold cRD at h
  split at h
  · rename_i hm
    simp only [Bool.and_eq_true] at hm
    split at h
    · rename_i rs hrs
      split at h
      · rename_i r hr
        cases h
        obtain ⟨tips, p, hrun, ho⟩ := cD_ok hk ops.toList 0 hrs
        have : runDD P n ops tips (padOf ops) st = some ((apAll rs ⟨st.env, st.σ ++ List.replicate (padOf ops) .dead⟩).env, (apAll rs ⟨st.env, st.σ ++ List.replicate (padOf ops) .dead⟩).σ, p) := by
          unfold runDD
          rw [eqN_eq hm.2, hrun]
        have h2 := finR_obl (q := r.2) hr p
        rw [← this] at h2
        exact At.draw_end hm.1 (padOf ops) _ _ p h2 ho hQ
      · cases h
    · cases h
  · cases h

def cRY (P : Program) (n : Nat) (call : CallF) (ops : Array Oper) (st : St) : Option St :=
  match cRD P n call 0 ops st with
  | some s => some s
  | none => match cRD P n call 1 ops st with
    | some s => some s
    | none => cRD P n call 2 ops st
/-- The slots that are handed to calls. -/
def argTs : List Oper → List Nat
  | [] => []
  | o :: l => (match o.op with | .call { callee := .value _, args, .. } => args.toList.filterMap fun x => (match x with | .tmp u => some u | _ => none) | _ => []) ++ argTs l
def argIx (ops : Array Oper) (st : St) : List Nat := rowIx st.σ (PV.ixss (valsOf st.env (argTs ops.toList)) [])
def cRX (P : Program) (n : Nat) (call : CallF) (ops : Array Oper) (st : St) : Option St :=
  match settleF (argIx ops st) st with
  | some s => cRY P n call ops s
  | none => none
def isRet : Exit → Bool | .ret => true | .normal => true | _ => false
def cL (f : St → Option (Exit × St)) : Nat → St → Option (Exit × St)
  | 0, _ => none
  | m + 1, s =>
    match f s with
    | some (.normal, s') => cL f m s'
    | r => r
def seqSt {α : Type} (st : St) (k : St → α) : α := seqE st.env fun e => seqσ st.σ fun s => k ⟨e, s⟩
theorem seqSt_eq {α : Type} (st : St) (k : St → α) : seqSt st k = k st := by simp [seqSt, seqE_eq, seqσ_eq]

def cC (P : Program) (call : CallF) (n : Nat) : Code → St → Option (Exit × St)
  | .skip, st => some (.normal, st)
  | .region _ ops d, st =>
    match (match d with | true => cRX P n call ops st | false => cRN P n call ops st) with
    | some s => seqSt s fun s => some (.normal, s)
    | none => none
  | .seq a b, st =>
    match cC P call n a st with
    | some (.normal, s) => cC P call n b s
    | r => r
  | .cond (.tmp t) a b, st =>
    match st.env.lookup t with
    | some (.d (.bool v)) => (match v with | true => cC P call n a st | false => cC P call n b st)
    | _ => none
  | .block id c, st =>
    match cC P call n c st with
    | some (.exit i, s) => if Nat.beq i id then some (.normal, s) else some (.exit i, s)
    | r => r
  | .loop c, st => cL (cC P call n c) 3000 st
  | .exit id, st => some (.exit id, st)
  | .label _, st => some (.normal, st)
  | .ret, st => some (.ret, st)
  | .scope c, st =>
    match cC P call n c st with
    | some (.goto _, _) => none
    | r => r
  | _, _ => none

theorem cC_ok {P : Program} {call : CallF} (hk : CallOK P call) {ro : Option Nat} {E : Entry} {n : Nat} : ∀ (c : Code) {st st' : St} {x : Exit} {Q : Exit → Act → World → Prop}, cC P call n c st = some (x, st') →
    (∀ a w, Sim E n st' a w → Q x a w) → At P ro E n c Q st
  | .skip, st, st', x, Q, h, hQ => by simp only [cC, Option.some.injEq, Prod.mk.injEq] at h; obtain ⟨rfl, rfl⟩ := h; exact At.skip hQ
  | .region id ops d, st, st', x, Q, h, hQ => by
    simp only [cC] at h
    split at h
    · rename_i s hs
      rw [seqSt_eq] at h
      simp only [Option.some.injEq, Prod.mk.injEq] at h; obtain ⟨rfl, rfl⟩ := h
      cases d with
      | true =>
        replace hs : cRX P n call ops st = some s := hs
        unfold cRX at hs
        split at hs
        · rename_i s0 h0
          refine At.settle _ h0 ?_
          unfold cRY at hs
          split at hs
          · rename_i s1 h1; cases hs; exact cRD_ok hk h1 hQ
          · split at hs
            · rename_i s1 h1; cases hs; exact cRD_ok hk h1 hQ
            · exact cRD_ok hk hs hQ
        · cases hs
      | false => exact cRN_ok hk hs hQ
    · cases h
  | .seq a b, st, st', x, Q, h, hQ => by
    simp only [cC] at h
    refine At.seq ?_
    split at h
    · rename_i s hs
      exact cC_ok hk a hs fun a' w' hs' => cC_ok hk b h hQ a' w' hs'
    · rename_i hne
      refine cC_ok hk a h fun a' w' hs' => ?_
      cases x with
      | normal => exact (hne _ h).elim
      | _ => exact hQ a' w' hs'
  | .cond (.tmp t) a b, st, st', x, Q, h, hQ => by
    simp only [cC] at h
    split at h
    · rename_i v hv
      refine At.cond v hv (fun e => ?_) (fun e => ?_)
      · subst e; exact cC_ok hk a h hQ
      · subst e; exact cC_ok hk b h hQ
    · cases h
  | .block id c, st, st', x, Q, h, hQ => by
    simp only [cC] at h
    refine At.block ?_
    split at h
    · rename_i i s hs
      refine cC_ok hk c hs fun a' w' hs' => ?_
      split at h
      · rename_i e
        simp only [Option.some.injEq, Prod.mk.injEq] at h; obtain ⟨rfl, rfl⟩ := h
        show (if i = id then Q .normal a' w' else Q (.exit i) a' w')
        rw [if_pos (Nat.eq_of_beq_eq_true e)]; exact hQ a' w' hs'
      · rename_i e
        simp only [Option.some.injEq, Prod.mk.injEq] at h; obtain ⟨rfl, rfl⟩ := h
        show (if i = id then Q .normal a' w' else Q (.exit i) a' w')
        rw [if_neg (fun e' => e (by rw [e']; exact Nat.beq_refl id))]; exact hQ a' w' hs'
    · rename_i hne
      refine cC_ok hk c h fun a' w' hs' => ?_
      cases x with
      | exit i => exact (hne _ _ h).elim
      | _ => exact hQ a' w' hs'
  | .loop c, st, st', x, Q, h, hQ => by
    simp only [cC] at h
    have key : ∀ m (s : St), cL (cC P call n c) m s = some (x, st') → ∀ a w, Sim E n s a w → Code.roundsIn (wd ro) 0 P c Q m a w := by
      intro m
      induction m with
      | zero => intro s h; cases h
      | succ m ih =>
        intro s h a w hs
        simp only [cL] at h
        refine At.roundN (N := m) (st := s) ?_ a w hs
        split at h
        · rename_i s' hs'
          exact cC_ok hk c hs' fun a' w' h' => ih s' h a' w' h'
        · rename_i hne
          refine cC_ok hk c h fun a' w' hs' => ?_
          cases x with
          | normal => exact (hne _ h).elim
          | _ => exact hQ a' w' hs'
    exact At.loopN 3000 (key 3000 st h)
  | .exit id, st, st', x, Q, h, hQ => by simp only [cC, Option.some.injEq, Prod.mk.injEq] at h; obtain ⟨rfl, rfl⟩ := h; exact At.exit hQ
  | .label l, st, st', x, Q, h, hQ => by simp only [cC, Option.some.injEq, Prod.mk.injEq] at h; obtain ⟨rfl, rfl⟩ := h; exact At.label hQ
  | .ret, st, st', x, Q, h, hQ => by simp only [cC, Option.some.injEq, Prod.mk.injEq] at h; obtain ⟨rfl, rfl⟩ := h; exact At.ret hQ
  | .scope c, st, st', x, Q, h, hQ => by
    simp only [cC] at h
    refine At.scope ?_
    split at h
    · cases h
    · rename_i hne
      refine cC_ok hk c h fun a' w' hs' => ?_
      cases x with
      | goto l => exact (hne _ _ h).elim
      | _ => exact hQ a' w' hs'

/-! ### functions -/
def resChk (P : Program) (env : Env) (σ : List AObj) : List ResultVar → Bool
  | [] => true
  | .tmp _ :: l => resChk P env σ l
  | .cell t ty :: l =>
    (match env.lookup t, P.info? ty with
    | some (.ptr i _), some info => (match σ[i]? with | some (.dblk _ cs) => Nat.beq cs.length info.size | some (.blk _ _) => true | _ => false)
    | _, _ => false) && resChk P env σ l
theorem res_obl {P : Program} {env : Env} {σ : List AObj} : ∀ {rs : List ResultVar} {l : List PV} {obl : List Prop}, resPVs P env σ rs = some (l, obl) → resChk P env σ rs = true → ∀ p ∈ obl, p
  | [], _, _, h, _ => by simp only [resPVs, Option.some.injEq, Prod.mk.injEq] at h; obtain ⟨rfl, rfl⟩ := h; exact all0
  | r :: rs, l, obl, h, hc => by
    simp only [resPVs] at h
    split at h
    · rename_i x y hx hy
      simp only [Option.some.injEq, Prod.mk.injEq] at h; obtain ⟨rfl, rfl⟩ := h
      have h1 : (∀ p ∈ x.2, p) ∧ resChk P env σ rs = true := by
        cases r with
        | tmp t =>
          simp only [resPV] at hx
          obtain ⟨z, _, rfl⟩ := Option.map_eq_some_iff.1 hx
          exact ⟨all0, hc⟩
        | cell t ty =>
          simp only [resChk, Bool.and_eq_true] at hc
          refine ⟨?_, hc.2⟩
          have hc1 := hc.1
          simp only [resPV] at hx
          split at hx
          · rename_i i off hl
            rw [hl] at hc1
            split at hx
            · rename_i out ho
              cases hx
              cases hi : P.info? ty with
              | none => rw [hi] at hc1; cases hc1
              | some info =>
                rw [hi] at hc1
                simp only at hc1
                unfold aLoad at ho
                split at ho
                · rename_i desc info' i' off' hu hi' e
                  cases e
                  rw [hi] at hi'; cases hi'
                  split at ho
                  · repeat' split at ho
                    all_goals first | (cases ho; done) | (cases ho; exact all0)
                  · rename_i t cs hs
                    rw [hs] at hc1
                    unfold dLoad at ho
                    simp only at ho
                    split at ho
                    · cases ho; exact allc (Nat.eq_of_beq_eq_true hc1) all0
                    · cases ho
                  · rename_i e sz cs hs
                    rw [hs] at hc1; cases hc1
                  · cases ho
                · rename_i e; cases e
                · cases ho
            · cases hx
          · cases hx
      intro p hp
      rcases List.mem_append.1 hp with hp | hp
      · exact h1.1 p hp
      · exact res_obl (l := y.1) (obl := y.2) hy h1.2 p hp
    · cases h
def resIx (P : Program) (fn : Func) (st : St) : List Nat := match resPVs P st.env (shutM st.σ) fn.results.toList with | some (l, _) => PV.ixss l [] | none => []
theorem Sim.settle {E : Entry} {n : Nat} {st st' : St} {a : Act} {w : World} (hs : Sim E n st a w) {ids : List Nat} (h : settleF ids st = some st') : Sim E n st' a w := by
  obtain ⟨h1, hz, φ, hM, hdf, hE⟩ := hs
  obtain ⟨⟨env', σ'⟩, hset, h⟩ := Option.bind_eq_some_iff.1 h
  split at h
  · rename_i hm
    simp at h; subst h
    obtain ⟨hz', hM', hE'⟩ := settleRows_sound (a := a) hM hE hset
    exact ⟨h1, hz', φ, hM', by rw [eqN_eq hm]; exact hdf, hE'⟩
  · cases h
def cRet (P : Program) (fn : Func) (x : Exit) (st : St) : Option (PV × List AObj) :=
  if isRet x && nodupB (resIx P fn st) then
    match retF P fn 0 (resIx P fn st) st with
    | some (res, σ', gs, obl) => if resChk P st.env (shutM st.σ) fn.results.toList && Nat.beq gs.length 0 then seqP res fun res => seqσ σ' fun σ' => some (res, σ') else none
    | none => none
  else none
def cF (P : Program) (tbl : Tbl) : Nat → Bool → FuncId → List PV → Option (PV × List AObj)
  | 0, _, _, _ => none
  | k + 1, b, f, args =>
    match findE f args [] tbl with
    | some t => if eqN t.e [] then some (t.res, t.σ') else none
    | none =>
    match P.funcs[f]? with
    | some fn =>
      match fn.body with
      | some c =>
        if Nat.ble args.length fn.ntmps then
          match cC P (cF P tbl k, tbl) fn.ntmps c ⟨argEnv 0 args, []⟩ with
          | some (x, st) =>
            match b with
            | false => cRet P fn x st
            | true => (match settleF (rowIx st.σ (resIx P fn st)) st with | some st' => cRet P fn x st' | none => none)
          | none => none
        else none
      | none => none
    | none => none

theorem cRet_ok {P : Program} {fn : Func} {x : Exit} {st : St} {r : PV × List AObj} (h : cRet P fn x st = some r) {E : Entry} {gv : Nat → Value} {R : Ending → World → Prop} (hR : ∀ v w' hz' φ', Mem E hz' φ' r.2 w' → RetR gv [] [] r.1 v w' hz' φ' → R (.returned v) w') :
    ∀ a w, Sim E fn.ntmps st a w → FinP P fn R x a w := by
  unfold cRet at h
  split at h
  · rename_i hx
    simp only [Bool.and_eq_true] at hx
    split at h
    · rename_i res σ' gs obl hr
      split at h
      · rename_i ho
        simp only [Bool.and_eq_true] at ho
        rw [seqP_eq, seqσ_eq] at h
        cases h
        have hgs : gs = [] := List.eq_nil_of_length_eq_zero (Nat.eq_of_beq_eq_true ho.2)
        subst hgs
        intro a w hs
        refine ret_ok hR (ρ := resIx P fn st) (gs := []) hr ?_ (by simp [ident, hx.2]) rfl rfl a w hs x ?_
        · unfold retF at hr
          split at hr
          · rename_i l obl' hl
            split at hr
            · split at hr
              · cases hr; exact res_obl hl ho.1
              · cases hr
            · cases hr
          · cases hr
        · cases x with
          | ret => exact .inl rfl
          | normal => exact .inr rfl
          | _ => cases hx.1
      · cases h
    · cases h
  · cases h

theorem cF_all {P : Program} {tbl : Tbl} (ht : TblOK P tbl) : ∀ k b f args r, cF P tbl k b f args = some r → FnOK P f args [] r.1 r.2 []
  | 0, b, f, args, r, h => by cases h
  | k + 1, b, f, args, r, h => by
    simp only [cF] at h
    split at h
    · rename_i t hf
      split at h
      · rename_i he
        cases h
        have := findE_ok ht hf
        rw [eqN_eq he] at this
        exact this
      · cases h
    split at h
    · rename_i fn hf
      split at h
      · rename_i c hb
        split at h
        · rename_i hn
          split at h
          · rename_i x st hc
            refine FnOK.intro hf hb hn rfl fun E gv R hR => ?_
            refine cC_ok (call := (cF P tbl k, tbl)) ⟨cF_all ht k, ht⟩ c hc fun a w hs => ?_
            cases b with
            | false => exact cRet_ok h hR a w hs
            | true =>
              simp only at h
              split at h
              · rename_i st' hset; exact cRet_ok h hR a w (hs.settle hset)
              · cases h
          · cases h
        · cases h
      · cases h
    · cases h
theorem cF_ok {P : Program} {tbl : Tbl} (ht : TblOK P tbl) (k : Nat) : CallOK P (cF P tbl k, tbl) := ⟨cF_all ht k, ht⟩

/-- Whether a list's capacity is known may be forgotten. -/
theorem FnOK.lo {P : Program} {f : FuncId} {args : List PV} {res : PV} (h : FnOK P f args [] res [] []) : FnOK P f args [] res.lo [] [] := by
  intro w hz own φ vals hM hv
  refine (h w hz own φ vals hM hv).mono fun en w' ⟨v, hz', φ', e1, e2, e3⟩ => ⟨v, hz', φ', e1, e2.lo, e3⟩
theorem sEq_eq {a b : ByteArray} (h : sEq a b = true) : a = b := data_inj (u8eq_iff.1 h)
/-- A call that was run through, as a contract. -/
theorem ran_ok {P : Program} {k : Nat} {f : FuncId} {s : ByteArray} {res : PV} {tbl : Tbl} (ht : TblOK P tbl) (h : cF P tbl k true f [.d (.str s)] = some (res, [])) {T : Type} {c : T} {pv : T → PV} (hp : res.lo = pv c) {p0 : ByteArray} {r : T} (hr : cond (sEq p0 s) (some c) none = some r) : FnOK P f [sv p0] [] (pv r) [] [] := by
  cases hq : sEq p0 s with
  | false => rw [hq] at hr; cases hr
  | true =>
    rw [hq] at hr
    cases hr
    rw [sEq_eq hq, ← hp]
    exact ((cF_ok ht k).1 true f _ _ h).lo
end Go.Ab
