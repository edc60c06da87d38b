/- One operation at what it looks at. -/
import Derived.Test.YtgldclhdieafkaaGreatAbPc
import Derived.RangeFuncRecord
namespace Go.Ab
open Go.RowKit
def SimF (E : Entry) (n : Nat) (ms : List Nat) (s : SF) (a : Act) (w : World) : Prop :=
 a.tmps.size = n ∧ ∃ hz φ,Mem E hz φ s.σ w ∧ a.defers = G5 φ ms ∧ msB ms s.σ = true ∧ ∀ t x,s.e t = some x → ∃ v,a.tmps[t]? = some v ∧ RelV hz φ v x
theorem SimM.F {E : Entry} {n : Nat} {ms : List Nat} {st : St} {a : Act} {w : World} (h : SimM E n ms st a w) : SimF E n ms st.F a w := h
theorem SimF.of {E : Entry} {n : Nat} {ms : List Nat} {st : St} {a : Act} {w : World} (h : SimF E n ms st.F a w) : SimM E n ms st a w := h
def QE : List Nat → List (Option AObj) → Bool
 | [],_ => true
 | i :: l,u => (match u[i]? with | some (some _) => false | _ => true) && QE l u
theorem msUpd_get {u : List (Option AObj)} : ∀ {ms : List Nat},QE ms u = true → ∀ i ∈ ms,∀ x,u[i]? ≠ some (some x)
 | [],_,i,h => by cases h
 | k :: l,hh,i,h => by
   simp only [QE,Bool.and_eq_true] at hh
   rcases List.mem_cons.1 h with rfl | h
   · intro x hx
     have := hh.1
     rw [hx] at this
     cases this
   · exact msUpd_get hh.2 i h
def msEff : List Nat → List Nat → Bool
 | [],_ => true
 | i :: l,e => !(e.contains (2 * i)) && msEff l e
theorem msEff_get {e : List Nat} : ∀ {ms : List Nat},msEff ms e = true → ∀ i ∈ ms,e.contains (2 * i) = false
 | [],_,i,h => by cases h
 | k :: l,hh,i,h => by
   simp only [msEff,Bool.and_eq_true,Bool.not_eq_true'] at hh
   rcases List.mem_cons.1 h with rfl | h
   · exact hh.1
   · exact msEff_get hh.2 i h
theorem msB_of {σ : List AObj} : ∀ {ms : List Nat},(∀ i ∈ ms,σ[i]? = some .mark) → msB ms σ = true
 | [],_ => rfl
 | k :: l,h => by
   simp only [msB,h k (by simp),msB_of (fun i hi => h i (List.mem_cons_of_mem _ hi))]
   rfl
theorem Ta {ms : List Nat} {r : Rec} {s : SF} (h : msB ms s.σ = true) (hu : QE ms r.upd = true) : msB ms (r.apF s).σ = true := by
 refine msB_of fun i hi => ?_
 have h1 := msB_get h i hi
 have h2 := msUpd_get hu i hi
 simp only [Rec.apF,overlay_get,List.getElem?_map,h1,Option.map_some]
 rcases hx : r.upd[i]? with _ | (_ | x)
 · rfl
 · rfl
 · exact absurd hx (h2 x)
theorem OH {E : Entry} {hz hz' : Hp} {φ φ' : Phi} {σ : List AObj} {w : World} {ms e : List Nat} (hM : Mem E hz φ σ w) (hb : msB ms σ = true) (hφ : ∀ i g c,i ∈ ms → φ i = some (some (g,c)) → RelV hz' φ' (.pointer (some ⟨g,0,none⟩)) (effO e (.ptr i 0))) (he : msEff ms e = true) :
    G5 φ ms = G5 φ' ms := by
 unfold G5
 apply List.map_congr_left
 intro i hi
 have hm := msB_get hb i hi
 obtain ⟨g,c,h1,_⟩ := hM.objs i _ hm
 have hr := hφ i g c hi h1
 have hk : effO e (.ptr i 0) = .ptr i 0 := by
  simp only [effO,msEff_get he i hi,Bool.false_eq_true,if_false]
 rw [hk] at hr
 cases hr with
 | ptr _ _ _ c' h => simp only [plc,h1,h]
def Jm (ev : Operand → Option PV) (o : Oper) : List Nat :=
 match o.op with
 | .call { callee := .builtin .append,args,.. } =>
   match args.toList with
   | [s,_] => match ev s with | some (.row i _) => [2 * i,2 * i + 1] | _ => []
   | _ => []
 | _ => []
theorem RI (ev : Operand → Option PV) (o : Oper) : Ts (Jm ev o) := by
 unfold Jm
 split
 · split
   · split
     · exact .inr ⟨_,rfl⟩
     · exact .inl rfl
   · exact .inl rfl
 · exact .inl rfl
def RJ (e : List Nat) (f : Option (Nat × (Nat → PV))) : Bool := match e with | [] => f.isNone | _ => true
theorem O2 {P : Program} {t u : TypeId} {y z : PV} {σ : List AObj} {out : Out} (h : MF P t u y z σ = some out) : out.eff = effF (match y with | .row i _ => [2 * i,2 * i + 1] | _ => []) := by
 unfold MF at h
 split at h
 · split at h
   · split at h
     · split at h
       · split at h
         · split at h
           · split at h
             · simp only [Option.some.injEq] at h; subst h; simp only [effF]; rw [Nat.mul_div_cancel_left _ (by decide)]
             · cases h
           · cases h
         · simp only [Option.some.injEq] at h; subst h; rfl
         · cases h
       · cases h
     · cases h
   · cases h
 · cases h
theorem Ov {P : Program} {t u : TypeId} {y z : PV} {σ : List AObj} {out : Out} (h : aAppendD P t u y z σ = some out) : out.eff = effF (match y with | .row i _ => [2 * i,2 * i + 1] | _ => []) := by
 unfold aAppendD at h
 split at h
 · split at h
   · split at h
     · split at h
       · split at h
         · simp only [Option.some.injEq] at h; subst h; rfl
         · cases h
       · cases h
     · cases h
   · cases h
 · cases h
theorem Ou {P : Program} {t u : TypeId} {y z : PV} {σ : List AObj} {orc : Orc} {out : Out} (h : aAppendX P t u y z σ orc = some out) : out.eff = effF (match y with | .row i _ => [2 * i,2 * i + 1] | _ => []) := by
 cases orc with
 | val d => have q := Ov (y := y) h; cases y <;> exact q
 | _ => have q := O2 (y := y) h; cases y <;> exact q
theorem effOf_ok {P : Program} {ev : Operand → Option PV} {o : Oper} {σ : List AObj} {orc : Orc} {out : Out} (h : aop P ev o σ orc = some out) (he : RJ (Jm ev o) out.eff = true) : out.eff = effF (Jm ev o) := by
 cases hq : Jm ev o with
 | nil => rw [hq] at he; simp [RJ] at he; rw [he]; rfl
 | cons i l =>
   unfold Jm at hq
   split at hq
   · rename_i args ts hop
     unfold aop at h
     rw [hop] at h
     simp only at h
     split at hq
     · rename_i s x hargs
       split at hq
       · rename_i j m hev
         simp at hq; obtain ⟨rfl,rfl⟩ := hq
         split at h
         · rename_i s' x' t u h1 h2
           rw [h1] at hargs; cases hargs
           rw [hev] at h
           simp only [Option.bind_some] at h
           obtain ⟨z,hz,h⟩ := Option.bind_eq_some_iff.1 h
           exact Ou h
         · cases h
       · cases hq
     · cases hq
   · cases hq
def plainσ : List AObj → Bool
 | [] => true
 | .ghost _ _ :: _ => false
 | _ :: l => plainσ l
theorem Gv : ∀ {l : List AObj},plainσ l = true → ∀ (i : Nat) (o : AObj),l[i]? = some o → o.live = true ∨ o = .dead
 | [],_,i,o,h => by simp at h
 | .ghost _ _ :: l,hh,i,o,h => by simp [plainσ] at hh
 | .blk t cs :: l,hh,0,o,h => by simp at h; subst h; exact .inl rfl
 | .dblk t cs :: l,hh,0,o,h => by simp at h; subst h; exact .inl rfl
 | .row e sz cs :: l,hh,0,o,h => by simp at h; subst h; exact .inl rfl
 | .mark :: l,hh,0,o,h => by simp at h; subst h; exact .inl rfl
 | .loop _ _ _ _ _ _ _ _ :: l,hh,0,o,h => by simp at h; subst h; exact .inl rfl
 | .mp _ _ :: l,hh,0,o,h => by simp at h; subst h; exact .inl rfl
 | .dmp _ _ :: l,hh,0,o,h => by simp at h; subst h; exact .inl rfl
 | .dead :: l,hh,0,o,h => by simp at h; subst h; exact .inr rfl
 | .blk t cs :: l,hh,i + 1,o,h => Gv (l := l) (by simpa [plainσ] using hh) i o (by simpa using h)
 | .dblk t cs :: l,hh,i + 1,o,h => Gv (l := l) (by simpa [plainσ] using hh) i o (by simpa using h)
 | .row e sz cs :: l,hh,i + 1,o,h => Gv (l := l) (by simpa [plainσ] using hh) i o (by simpa using h)
 | .mark :: l,hh,i + 1,o,h => Gv (l := l) (by simpa [plainσ] using hh) i o (by simpa using h)
 | .loop _ _ _ _ _ _ _ _ :: l,hh,i + 1,o,h => Gv (l := l) (by simpa [plainσ] using hh) i o (by simpa using h)
 | .mp _ _ :: l,hh,i + 1,o,h => Gv (l := l) (by simpa [plainσ] using hh) i o (by simpa using h)
 | .dmp _ _ :: l,hh,i + 1,o,h => Gv (l := l) (by simpa [plainσ] using hh) i o (by simpa using h)
 | .dead :: l,hh,i + 1,o,h => Gv (l := l) (by simpa [plainσ] using hh) i o (by simpa using h)
def R3 (P : Program) (pc : PC) (o : Oper) (env : Env) (σ : List AObj) : Option (PCOut × Prop) :=
 match o.op with
 | .call { callee := .value cl,args,.. } =>
   match env.eval cl,J9 env.eval args.toList with
   | some (.fn (.func f) first caps),some ps =>
     if Ks P f then
      match La pc (first ++ ps ++ caps) σ with
      | some out => some (out,FnOK P f out.args out.σ pc.res pc.σ' pc.e)
      | none => none
     else none
   | some (.yld i),some ps =>
     match σ[i]?,ixOf (pc.ρ.take pc.n0) i with
     | some (.loop pps _ _ _ _ _ _ _),some k =>
       if Nat.beq pps.size ps.length then
        match La pc ps σ with
        | some out => some (out,RdOK P k out.args out.σ pc.res pc.σ' pc.e)
        | none => none
       else none
     | _,_ => none
   | _,_ => none
 | _ => none
def M9 (ms : List Nat) (e : List Nat) (σ σ' : List AObj) (res : PV) : Bool :=
 P6 e σ && Nb σ'.length σ' && res.inB σ'.length && Nat.ble σ.length σ'.length && QE ms (over σ σ') && msEff ms e
def R8 : Op → Bool | .load _ _ => true | _ => false
def SY (o : Oper) (σ σ' : List AObj) : List (Option AObj) := if R8 o.op then [] else over σ σ'
theorem dLoad_σ {size off : Nat} {ag : Bool} {cs : List D} {σ : List AObj} {orc : Orc} {out : Out} (h : P8 size ag cs off σ orc = some out) : out.σ = σ := by
 unfold P8 at h
 repeat' split at h
 all_goals first | (cases h; done) | (cases h; rfl)
theorem aLoad_σ {P : Program} {T : TypeId} {x : PV} {σ : List AObj} {orc : Orc} {out : Out} (h : OX P T x σ orc = some out) : out.σ = σ := by
 unfold OX at h
 repeat' split at h
 all_goals first | (cases h; done) | (cases h; rfl) | exact dLoad_σ h
theorem load_σ {P : Program} {ev : Operand → Option PV} {o : Oper} {σ : List AObj} {orc : Orc} {out : Out} (h : aop P ev o σ orc = some out) (hl : R8 o.op = true) : out.σ = σ ∧ Jm ev o = [] := by
 cases hop : o.op <;> (first | (rw [hop] at hl; cases hl; done) | skip)
 rename_i T a
 constructor
 · unfold aop at h
   rw [hop] at h
   simp only at h
   obtain ⟨y,_,h⟩ := Option.bind_eq_some_iff.1 h
   exact aLoad_σ h
 · unfold Jm; rw [hop]
theorem N0 {σ : List AObj} {s : List AObj} (hloc : ∀ (i : Nat) (o : AObj),σ[i]? = some o → o.live = true → s[i]? = some o) : overlay (over σ σ) s = s := by
 apply List.ext_getElem?
 intro i
 rw [overlay_get,over_get]
 cases hi : σ[i]? with
 | none => simp
 | some o =>
   simp only [Option.map_some]
   cases hl : o.live with
   | false => simp
   | true => simp [hloc i o hi hl]
def OA (P : Program) (n : Nat) (ops : Array Oper) (ms : List Nat) (tip : Tip) (o : Oper) (env : Env) (σ : List AObj) : Option (Rec × List Prop) :=
 if Ns n o.dst && !L1 o.op && envB σ.length env && Nb σ.length σ && plainσ σ then
  match M5 ops env o with
  | some false => some (⟨o.dst,.tup [],[],[],env,[],0,0⟩,[])
  | some true =>
    match tip.pc with
    | some pc =>
      match R3 P pc o env σ with
      | some (out,p) => if M9 ms out.eb σ out.σb out.res then some (⟨o.dst,out.res,out.eb,over σ out.σb,env,σ,σ.length,out.σb.length⟩,[p]) else none
      | none => none
    | none =>
    match tip.res with
    | some res =>
      match o.op with
      | .call { callee := .value (.func f),args,.. } =>
        match J9 env.eval args.toList with
        | some ps => if PV.datas ps && res.isData && Ks P f then some (⟨o.dst,res,[],[],env,[],0,0⟩,[RW P f (PV.looses ps) res]) else none
        | none => none
      | _ => none
    | none =>
      match aop P env.eval o σ tip.orc with
      | some out =>
        match tip.form with
        | none => if RJ (Jm env.eval o) out.eff && M9 ms (Jm env.eval o) σ out.σ out.res then
            some (⟨o.dst,out.res,Jm env.eval o,SY o σ out.σ,env,σ,σ.length,out.σ.length⟩,out.obl) else none
        | some f => match Pf out f.1 f.2 tip.obj with
          | some out => if RJ (Jm env.eval o) out.eff && M9 ms (Jm env.eval o) σ out.σ out.res then
              some (⟨o.dst,out.res,Jm env.eval o,over σ out.σ,env,σ,σ.length,out.σ.length⟩,out.obl) else none
          | none => none
      | none => none
  | none => none
 else none
section
variable {P : Program} {E : Entry} {n : Nat} {ms : List Nat} {s : SF} {a : Act} {w : World}
theorem Q8 {r : Rec} {x : PV} (h1 : r.eff = []) (h2 : r.upd = []) (h3 : r.res = x) (s : SF) : r.apF s = ⟨fun t => if r.dst = some t then some x else s.e t,s.σ⟩ := by
 unfold Rec.apF
 rw [h1,h2,h3]
 congr 1
 · funext t
   split
   · rfl
   · cases s.e t with
     | none => rfl
     | some y => simp [Kr]
 · show overlay [] (s.σ.map (effA [])) = s.σ
   unfold overlay
   have : (effA []) = id := by
    funext o
    cases o with
    | blk t cs => simp only [effA,Hd]; rfl
    | loop ps a b n ks vs st pd => simp only [effA,Hd]; rfl
    | mp ks vs => simp only [effA,Hd]; rfl
    | ghost v x => simp only [effA,Kr]; rfl
    | _ => rfl
   rw [this,List.map_id]
theorem putF {d : Option Nat} {f : Nat → Option PV} {x : PV} {v : Value} {hz : Hp} {φ : Phi} (hs : a.tmps.size = n) (hd : Ns n d = true) (hf : ∀ t y,f t = some y → ∃ u,a.tmps[t]? = some u ∧ RelV hz φ u y) (hv : RelV hz φ v x) :
    ∀ t y,(if d = some t then some x else f t) = some y → ∃ u,(a.put d v).tmps[t]? = some u ∧ RelV hz φ u y := by
 intro t y hy
 cases d with
 | none => simp at hy; exact hf t y hy
 | some k =>
   simp [Ns] at hd
   simp only [Act.put,Array.getElem?_setIfInBounds]
   by_cases e : k = t
   · subst e
     simp at hy; subst hy
     exact ⟨v,by simp [hs,hd],hv⟩
   · simp [e] at hy
     obtain ⟨u,hu,hr⟩ := hf t y hy
     exact ⟨u,by rw [if_neg e]; exact hu,hr⟩
theorem MX {dst : Option Nat} {env : Env} {σ σ' : List AObj} {res : PV} {e : List Nat} {hz hz2 : Hp} {φ φ2 : Phi} {w' : World} (hM : Mem E hz φ s.σ w) (hms : msB ms s.σ = true)
    (hp : Pre ⟨dst,res,e,over σ σ',env,σ,σ.length,σ'.length⟩ s) (hok : M9 ms e σ σ' res = true)
    (hM2 : Mem ⟨w,hz,fun g => ∃ i o c,σ[i]? = some o ∧ o.live = true ∧ φ i = some (some (g,c))⟩ hz2 φ2 σ' w')
    (ht : ∀ u x,RelV hz (fun i => if i < σ.length then φ i else none) u x → RelV hz2 φ2 u (effO e x)) :
    Mem E hz2 (fun i => if i < σ'.length then φ2 i else φ i) (Rec.apF ⟨dst,res,e,over σ σ',env,σ,σ.length,σ'.length⟩ s).σ w' ∧ G5 φ ms = G5 (fun i => if i < σ'.length then φ2 i else φ i) ms ∧ msB ms (Rec.apF ⟨dst,res,e,over σ σ',env,σ,σ.length,σ'.length⟩ s).σ = true ∧
     ∀ u x,RelV hz φ u x → x.noM σ.length σ'.length = true → RelV hz2 (fun i => if i < σ'.length then φ2 i else φ i) u (effO e x) := by
 simp only [M9,Bool.and_eq_true] at hok
 obtain ⟨⟨⟨⟨⟨c2,c3⟩,c4⟩,c5⟩,c6⟩,c7⟩ := hok
 have c5 := Nat.le_of_ble_eq_true c5
 have hloc : ∀ (i : Nat) (o : AObj),σ[i]? = some o → o.live = true → s.σ[i]? = some o := hp.loc
 have hlen : σ'.length ≤ s.σ.length := hp.len
 have hM3 := hM.glue hloc c5 hlen c2 hM2 ht c3 hp.freeA
 have hcar : ∀ u x,RelV hz φ u x → x.noM σ.length σ'.length = true → RelV hz2 (fun i => if i < σ'.length then φ2 i else φ i) u (effO e x) := fun u x hx hn => Q5 hM2.hle c5 ht hx hn
 refine ⟨hM3,?_,Ta hms c6,hcar⟩
 refine OH (hz' := hz2) hM hms (fun i g c hi hg => ?_) c7
 refine hcar _ _ (.ptr i 0 g c hg) ?_
 have h1 := msB_get hms i hi
 have h3 := msUpd_get c6 i hi
 simp only [PV.noM,Bool.or_eq_true,decide_eq_true_eq]
 rcases Nat.lt_or_ge i σ.length with hlt | hge
 · exact .inl hlt
 · rcases Nat.lt_or_ge i σ'.length with hlt2 | hge2
   · exfalso
     refine h3 (σ'[i]) ?_
     rw [over_get,List.getElem?_eq_getElem hlt2,List.getElem?_eq_none hge]
     rfl
   · exact .inr hge2
theorem Px {dst : Option Nat} {env : Env} {σ σ' : List AObj} {res : PV} {e : List Nat} {hz hz2 : Hp} {φ φ2 : Phi} {w' : World} {v : Value} (hsz : a.tmps.size = n) (hd : Ns n dst = true) (hM : Mem E hz φ s.σ w) (hdf : a.defers = G5 φ ms) (hms : msB ms s.σ = true)
    (hE0 : ∀ t x,s.e t = some x → ∃ v,a.tmps[t]? = some v ∧ RelV hz φ v x) (hp : Pre ⟨dst,res,e,over σ σ',env,σ,σ.length,σ'.length⟩ s) (hok : M9 ms e σ σ' res = true)
    (hM2 : Mem ⟨w,hz,fun g => ∃ i o c,σ[i]? = some o ∧ o.live = true ∧ φ i = some (some (g,c))⟩ hz2 φ2 σ' w') (hr : RelV hz2 φ2 v res)
    (ht : ∀ u x,RelV hz (fun i => if i < σ.length then φ i else none) u x → RelV hz2 φ2 u (effO e x)) :
    SimF E n ms (Rec.apF ⟨dst,res,e,over σ σ',env,σ,σ.length,σ'.length⟩ s) (a.put dst v) w' := by
 obtain ⟨hM3,hmk,hmb,hcar⟩ := MX hM hms hp hok hM2 ht
 simp only [M9,Bool.and_eq_true] at hok
 have c4 := hok.1.1.1.2
 refine ⟨by rw [IJ]; exact hsz,hz2,_,hM3,by rw [put_defers,hdf]; exact hmk,hmb,?_⟩
 refine putF hsz hd ?_ (hr.cong c4 (fun i hi => by simp [hi]))
 intro t y hy
 obtain ⟨x,hx,rfl⟩ := Option.map_eq_some_iff.1 hy
 obtain ⟨u,hu,hru⟩ := hE0 t x hx
 exact ⟨u,hu,hcar u x hru (hp.free t x hx)⟩
theorem Pe {hz : Hp} {φ : Phi} {ρ : Operand → Value} {args : Array Operand} {ps : List PV} (l1 : ps.length = args.toList.length) (l2 : ∀ (j : Nat) (y : PV),ps[j]? = some y → ∃ x,args.toList[j]? = some x ∧ RelV hz φ (ρ x) y) : RelL hz φ (args.map ρ) ps := by
 refine ⟨by simp [l1],fun j x hj => ?_⟩
 obtain ⟨y,hy,hr⟩ := l2 j x hj
 have hy' : args[j]? = some y := by simpa using hy
 have : (args.map ρ).getD j undef = ρ y := by simp [Array.getD_eq_getD_getElem?,hy']
 rw [this]; exact hr
theorem RelL.app {hz : Hp} {φ : Phi} {a b : Array Value} {x y : List PV} (h : RelL hz φ a x) (k : RelL hz φ b y) : RelL hz φ (a ++ b) (x ++ y) := by
 refine ⟨by simp [h.1,k.1],fun j z hj => ?_⟩
 rcases Nat.lt_or_ge j x.length with hlt | hge
 · rw [List.getElem?_append_left hlt] at hj
   have := h.2 j z hj
   rw [Array.getD_eq_getD_getElem?] at this ⊢
   rw [Array.getElem?_append_left (by rw [h.1]; exact hlt)]
   exact this
 · rw [List.getElem?_append_right hge] at hj
   have := k.2 _ z hj
   rw [Array.getD_eq_getD_getElem?] at this ⊢
   rw [Array.getElem?_append_right (by rw [h.1]; exact hge),h.1]
   exact this
theorem L6 {ro : Option Nat} {ops : Array Oper} {tip : Tip} {o : Oper} {env : Env} {σ : List AObj} {r : Rec} {obl : List Prop} {K : Act → World → Prop} {Q : Exit → Act → World → Prop}
    (hs : SimF E n ms s a w) (h : OA P n ops ms tip o env σ = some (r,obl)) (ho : ∀ p ∈ obl,p) (hp : Pre r s) (hK : ∀ a' w',SimF E n ms (r.apF s) a' w' → K a' w') :
    if Region.wanted o (yielded ops a.tmps) then o.wpIn (wd ro) 0 P a w K Q else K (a.put o.dst undef) w := by
 obtain ⟨hsz,hz,φ,hM,hdf,hms,hE0⟩ := hs
 unfold OA at h
 split at h
 case isFalse => cases h
 rename_i hc
 simp only [Bool.and_eq_true,Bool.not_eq_true'] at hc
 obtain ⟨⟨⟨⟨hd,hsel⟩,henvB⟩,hobjB⟩,hpl⟩ := hc
 have hsem : o.semAt (wd ro).round a.eval = execOp a.eval o := Oper.semAt_eq _ _ _ (Mg hsel)
 have hEL : r.env = env → Hj hz φ env a := fun e t x hx => hE0 t x (hp.env t x (by rw [e]; exact hx))
 split at h
 · rename_i hw
   simp only [Option.some.injEq,Prod.mk.injEq] at h; obtain ⟨rfl,rfl⟩ := h
   rw [Hn (hEL rfl) hw]
   simp only [Bool.false_eq_true,if_false]
   refine hK _ _ ?_
   rw [Q8 rfl rfl rfl]
   exact ⟨by rw [IJ]; exact hsz,hz,φ,hM,by rw [put_defers]; exact hdf,hms,putF hsz hd hE0 (.tup #[] [] rfl (fun j x hj => by simp at hj))⟩
 · rename_i hw
   split at h
   ·
    rename_i pc hpc
    split at h
    case h_2 => cases h
    rename_i out p hst
    split at h
    case isFalse => cases h
    rename_i hok
    simp only [Option.some.injEq,Prod.mk.injEq] at h; obtain ⟨rfl,rfl⟩ := h
    have hpp : p := ho _ (by simp)
    have hE1 := hEL rfl
    rw [Hn hE1 hw]
    simp only [if_true]
    have hloc : ∀ (i : Nat) (o : AObj),σ[i]? = some o → o.live = true → s.σ[i]? = some o := hp.loc
    have hMp := hM.part hloc (Gv hpl) hobjB
    have hEc : Hj hz (fun i => if i < σ.length then φ i else none) env a := fun t x hx => by
     obtain ⟨v,hv,hr⟩ := hE1 t x hx
     exact ⟨v,hv,hr.cut (Nm henvB hx)⟩
    have fin : ∀ en w',Post w hz (fun g => ∃ i o c,σ[i]? = some o ∧ o.live = true ∧ φ i = some (some (g,c))) (fun i => if i < σ.length then φ i else none) out.res out.σb out.eb en w' → ∃ v,en = .returned v ∧ K (a.put o.dst v) w' := by
     rintro en w' ⟨v,hz',φ',rfl,k1,k2,k3⟩
     exact ⟨v,rfl,hK _ _ (Px hsz hd hM hdf hms hE0 hp hok k2 k1 k3)⟩
    unfold R3 at hst
    split at hst
    case h_2 => cases hst
    rename_i cl args ts hop
    split at hst
    · rename_i f first caps ps hcl hps
      split at hst
      case isFalse => cases hst
      rename_i hca
      split at hst
      case h_2 => cases hst
      rename_i out' hcore
      simp only [Option.some.injEq,Prod.mk.injEq] at hst; obtain ⟨rfl,rfl⟩ := hst
      have hclr := hEc.eval cl _ hcl
      obtain ⟨l1,l2⟩ := If hEc.eval hps
      obtain ⟨va,vb,hva,hv1,hv2⟩ : ∃ va vb,a.eval cl = .func (.func f) va vb ∧ RelL hz (fun i => if i < σ.length then φ i else none) va first ∧ RelL hz (fun i => if i < σ.length then φ i else none) vb caps := by
       generalize a.eval cl = q at hclr
       cases hclr with
       | fn _ x y _ _ h1 h2 r1 r2 => exact ⟨x,y,rfl,⟨h1,r1⟩,⟨h2,r2⟩⟩
      have hrun : (execOp a.eval o).run P w = .ok (.enter f (va ++ args.map a.eval ++ vb)) w := by
       have e1 : execOp a.eval o = callFunc f (va ++ args.map a.eval ++ vb) := by
        unfold execOp
        rw [hop]
        simp only [resolve,Deferred.ofValue,hva]
        rfl
       rw [e1,I9 hca]
      refine ⟨about_wide,?_⟩
      rw [hsem,hrun,Oper.uponIn_enter]
      refine ⟨fun h => (by cases h),callsIn_wide.2 ((FnOK.use hcore hpp hMp ((hv1.app (Pe l1 l2)).app hv2)).mono ?_)⟩
      intro en w' hpost
      obtain ⟨v,rfl,hk⟩ := fin en w' hpost
      exact hk
    · rename_i i ps hcl hps
      split at hst
      case h_2 => cases hst
      rename_i pps as bd nn ks vs st' pd k hloop hk
      split at hst
      case isFalse => cases hst
      rename_i hsize
      split at hst
      case h_2 => cases hst
      rename_i out' hcore
      simp only [Option.some.injEq,Prod.mk.injEq] at hst; obtain ⟨rfl,rfl⟩ := hst
      have hsize := Nat.eq_of_beq_eq_true hsize
      have hclr := hEc.eval cl _ hcl
      obtain ⟨l1,l2⟩ := If hEc.eval hps
      obtain ⟨l,c,hva,hpl2⟩ : ∃ l c,a.eval cl = .func (.yield l) #[] #[] ∧ (fun i => if i < σ.length then φ i else none) i = some (some (l,c)) := by
       generalize a.eval cl = q at hclr
       cases hclr with
       | yld _ l c h => exact ⟨l,c,rfl,h⟩
      obtain ⟨g,c',rr,q1,q2,q3,q4,q5⟩ := hMp.objs i _ hloop
      rw [hpl2] at q1; cases q1
      have hy := run_yield (P := P) (args := args.map a.eval) q2 (by rw [q3.1,hsize]; simpa using l1.symm)
      have hrun : (execOp a.eval o).run P w = .ok (.round l rr.fn ((rr.params.zip (args.map a.eval)).foldl (fun tmps (x : Nat × Value) => tmps.setIfInBounds x.1 x.2) rr.tmps) rr.assign rr.body) w := by
       have e1 : execOp a.eval o = Instr.yield l (#[] ++ args.map a.eval) := by
        unfold execOp
        rw [hop]
        simp only [resolve,Deferred.ofValue,hva]
        rfl
       rw [e1,Array.empty_append]
       exact hy
      refine ⟨about_wide,?_⟩
      rw [hsem,hrun,Oper.uponIn_round]
      refine ⟨fun h => (by cases h),(RdOK.use hcore hpp hk hMp (Pe l1 l2) hpl2 q2).mono ?_⟩
      intro en w' hpost
      obtain ⟨v,rfl,hk⟩ := fin en w' hpost
      exact hk
    · cases hst
   split at h
   · rename_i res hres
     split at h
     · rename_i f args ts hop
       split at h
       · rename_i ps hps
         split at h
         · rename_i hcall
           simp only [Option.some.injEq,Prod.mk.injEq] at h; obtain ⟨rfl,rfl⟩ := h
           have hE1 := hEL rfl
           rw [Hn hE1 hw]
           simp only [if_true]
           simp at hcall
           obtain ⟨⟨hdd,hrd⟩,hca⟩ := hcall
           have hD : RW P f (PV.looses ps) res := ho _ (by simp)
           obtain ⟨l1,l2⟩ := If hE1.eval hps
           have hrun : (execOp a.eval o).run P w = .ok (.enter f (args.map a.eval)) w := by
            have e1 : execOp a.eval o = callFunc f (#[] ++ args.map a.eval ++ #[]) := by
             unfold execOp
             rw [hop]
             rfl
            rw [e1,I9 hca]
            simp
           refine ⟨about_wide,?_⟩
           rw [hsem,hrun,Oper.uponIn_enter]
           refine ⟨fun h => (by cases h),callsIn_wide.2 ?_⟩
           refine (hD w hz (args.map a.eval) hM.knows (by simp [l1,IR]) (fun j x hj => ?_)).mono ?_
           · obtain ⟨x0,hj0,rfl⟩ := J3 hj
             obtain ⟨y,hy,hr⟩ := l2 j x0 hj0
             have hy' : args[j]? = some y := by simpa using hy
             have : (args.map a.eval).getD j undef = a.eval y := by simp [Array.getD_eq_getD_getElem?,hy']
             rw [this]
             exact (RelV.data (Hp.le_refl _) hr (IX hdd hj0)).loose
           · rintro e w' ⟨v,hz2,rfl,r1,r2,r3,r4,r5⟩
             refine hK _ _ ?_
             rw [Q8 rfl rfl rfl]
             exact ⟨by rw [IJ]; exact hsz,hz2,φ,hM.call r2 r3 r4 r5,by rw [put_defers]; exact hdf,hms,putF hsz hd (fun t x hx => by
              obtain ⟨u,hu,hr⟩ := hE0 t x hx
              exact ⟨u,hu,hr.mono r3 (Phi.le_refl _)⟩) (RelV.data (Hp.le_refl _) r1 hrd)⟩
         · cases h
       · cases h
     · cases h
   · split at h
     · rename_i out0 hout0
       have hex : ∃ (out : Out) (U : List (Option AObj)),(r = ⟨o.dst,out.res,Jm env.eval o,U,env,σ,σ.length,out.σ.length⟩) ∧ (U = over σ out.σ ∨ (U = [] ∧ out.σ = σ ∧ Jm env.eval o = [])) ∧ (∀ hz φ σ' w' (E' : Entry) (ρ : Operand → Value),Mem E' hz φ σ w' → σ' = σ → (∀ x y,env.eval x = some y → RelV hz φ (ρ x) y) → Good P E' (execOp ρ o) w' hz φ out) ∧
           out.eff = effF (Jm env.eval o) ∧ M9 ms (Jm env.eval o) σ out.σ out.res = true := by
        split at h
        · split at h
          · rename_i hcc
            simp only [Bool.and_eq_true] at hcc
            simp only [Option.some.injEq,Prod.mk.injEq] at h; obtain ⟨rfl,rfl⟩ := h
            exact ⟨out0,_,rfl,(by unfold SY; split; exact .inr ⟨rfl,load_σ hout0 (by assumption)⟩; exact .inl rfl),fun hz φ σ' w' E' ρ hm _ hev => Ll hm hev hout0 ho,effOf_ok hout0 hcc.1,hcc.2⟩
          · cases h
        · split at h
          · rename_i f _ out1 hout1
            split at h
            · rename_i hcc
              simp only [Bool.and_eq_true] at hcc
              simp only [Option.some.injEq,Prod.mk.injEq] at h; obtain ⟨rfl,rfl⟩ := h
              obtain ⟨e1,e2,e3,e4⟩ := NX hout1 ho
              refine ⟨out0,_,by rw [e1,e2],.inl rfl,fun hz φ σ' w' E' ρ hm _ hev => Ll hm hev hout0 e4,effOf_ok hout0 (by rw [← e3]; exact hcc.1),by rw [← e2,← e1]; exact hcc.2⟩
            · cases h
          · cases h
       clear h
       obtain ⟨out,U,rfl,hU,hgood,c1,hok⟩ := hex
       have hE1 := hEL rfl
       rw [Hn hE1 hw]
       simp only [if_true]
       have hloc : ∀ (i : Nat) (o : AObj),σ[i]? = some o → o.live = true → s.σ[i]? = some o := hp.loc
       have hMp := hM.part hloc (Gv hpl) hobjB
       obtain ⟨nx,v,w',hz2,φ2,hrun,hnx,hM2,hr,htr⟩ := hgood _ _ σ w _ a.eval hMp rfl (fun x y hx => by
        have hEc : Hj hz (fun i => if i < σ.length then φ i else none) env a := fun t x hx => by
         obtain ⟨v,hv,hr⟩ := hE1 t x hx
         exact ⟨v,hv,hr.cut (Nm henvB hx)⟩
        exact hEc.eval x y hx)
       have ht : ∀ u x,RelV hz (fun i => if i < σ.length then φ i else none) u x → RelV hz2 φ2 u (effO (Jm env.eval o) x) := by
        intro u x hx
        have := htr u x hx
        rw [c1,QV (RI _ _)] at this
        exact this
       have hg := Px (dst := o.dst) (env := env) hsz hd hM hdf hms hE0 ⟨hp.env,hp.loc,hp.free,hp.freeA,hp.len⟩ hok hM2 hr ht
       have fin : K (a.put o.dst v) w' := by
        refine hK _ _ ?_
        rcases hU with rfl | ⟨rfl,e1,e2⟩
        · exact hg
        · have e3 : (Rec.apF ⟨o.dst,out.res,Jm env.eval o,[],env,σ,σ.length,out.σ.length⟩ s) = (Rec.apF ⟨o.dst,out.res,Jm env.eval o,over σ out.σ,env,σ,σ.length,out.σ.length⟩ s) := by
            unfold Rec.apF
            simp only
            congr 1
            rw [e1,e2]
            have he : (effA []) = id := by
             funext o
             cases o with
             | blk t cs => simp only [effA,Hd]; rfl
             | loop ps a b n ks vs st pd => simp only [effA,Hd]; rfl
             | mp ks vs => simp only [effA,Hd]; rfl
             | ghost v x => simp only [effA,Kr]; rfl
             | _ => rfl
            rw [he,List.map_id,N0 hloc]
            rfl
          rw [e3]; exact hg
       refine ⟨about_wide,?_⟩
       rw [hsem,hrun]
       rcases hnx with rfl | ⟨rfl,rfl⟩
       · exact fin
       · exact fin
     · cases h
 · cases h
end
end Go.Ab
