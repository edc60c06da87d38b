/- A range over a function: its rounds, and the statement. -/
import Derived.Test.YtgldclhdieafkaaGreatAbFn
import Derived.RangeFuncIn
namespace Go.Ab
open Go.RowKit
abbrev HF (l : Nat) : Value := .func (.yield l) #[] #[]
def JZ : List Nat → List PV → Env
 | t :: ts,x :: xs => (t,x) :: JZ ts xs
 | _,_ => []
theorem Lu : ∀ {ts : List Nat} {xs : List PV} {t : Nat} {x : PV},(JZ ts xs).lookup t = some x → ∃ j : Nat,ts[j]? = some t ∧ xs[j]? = some x
 | [],xs,t,x,h => by simp [JZ] at h
 | _ :: _,[],t,x,h => by simp [JZ] at h
 | k :: ts,y :: xs,t,x,h => by
   simp only [JZ,List.lookup] at h
   split at h
   · rename_i e
     have : t = k := by simpa using e
     subst this
     simp at h; subst h
     exact ⟨0,rfl,rfl⟩
   · obtain ⟨j,h1,h2⟩ := Lu h
     exact ⟨j + 1,by simpa using h1,by simpa using h2⟩
def Pc (ps : List Nat) (args : List PV) (ks : List Nat) (vs : List PV) : Env := JZ ps args ++ JZ ks vs
def RL : List Nat → List Nat → Bool
 | [],_ => true
 | i :: l,m => !(m.contains i) && RL l m
theorem disjB_get : ∀ {l m : List Nat},RL l m = true → ∀ i,i ∈ l → m.contains i = false
 | [],_,_,i,h => by cases h
 | k :: l,m,hh,i,h => by
   simp only [RL,Bool.and_eq_true,Bool.not_eq_true'] at hh
   rcases List.mem_cons.1 h with rfl | h
   · exact hh.1
   · exact disjB_get hh.2 i h
section
variable {P : Program} {ro : Option Nat} {hz hz' : Hp} {φ φ' : Phi} {σ σ' : List AObj} {env : Env} {a : Act} {w w' : World} {E : Entry} {n : Nat} {Q : Exit → Act → World → Prop} {st st' : St}
theorem Mem.loopState (hM : Mem E hz φ σ w) {i l c : Nat} {ps : Array Nat} {as bd : Code} {n : Nat} {ks : List Nat} {vs : List PV} {s0 : LoopState} {p0 : Option Code} {r : Go.Loop} (hi : σ[i]? = some (.loop ps as bd n ks vs s0 p0)) (hp : φ i = some (some (l,c))) (hl : w.heap[l]? = some (.loop r)) (s1 : LoopState) (p1 : Option Code) :
    Mem E hz φ (σ.set i (.loop ps as bd n ks vs s1 p1)) (w.putObj l (.loop { r with state := s1,pending := p1 })) := by
 refine hM.write hi rfl rfl hp (fun k hk => World.putObj_heap_other hk) World.putObj_size rfl rfl rfl ?_
 obtain ⟨g,c',r',h1,h2,h3,h4,h5⟩ := hM.objs i _ hi
 rw [hp] at h1; cases h1
 rw [hl] at h2; cases h2
 exact ⟨l,c,_,hp,World.putObj_heap_same (lt_of_get hl),⟨h3.1,h3.2.1,h3.2.2.1,h3.2.2.2.1,rfl,rfl⟩,h4,h5⟩
theorem Ml {o o' : AObj} : ∀ (l : List AObj) (i k : Nat) (acc : List Nat),l[i]? = some o → (∀ k l acc,DG k (o :: l) acc = DG (k + 1) l acc) → (∀ k l acc,DG k (o' :: l) acc = DG (k + 1) l acc) → DG k (l.set i o') acc = DG k l acc
 | [],i,k,acc,h,_,_ => by simp at h
 | x :: l,0,k,acc,h,h1,h2 => by simp at h; subst h; rw [List.set_cons_zero,h1,h2]
 | x :: l,i + 1,k,acc,h,h1,h2 => by
   rw [List.set_cons_succ]
   cases x with
   | mark => exact Ml l i (k + 1) (k :: acc) (by simpa using h) h1 h2
   | _ => exact Ml l i (k + 1) acc (by simpa using h) h1 h2
def beginF (i : Nat) (st : St) : Option St :=
 match st.σ[i]? with
 | some (.loop ps as bd n ks vs .ready pd) => some ⟨st.env,st.σ.set i (.loop ps as bd n ks vs .busy pd)⟩
 | _ => none
theorem RT {i k l : Nat} {body : Code} (h : beginF i st = some st') (hg : st.σ[k]? = some (.ghost (HF l) (.yld i))) (h2 : At P (some l) E n body Q st') :
    ∀ a w,Sim E n st a w → ∃ w2,(Instr.beginRound l).run P w = .ok () w2 ∧ body.wpIn (wd (some l)) 0 P Q a w2 := by
 intro a w hs
 obtain ⟨h1,hz,φ,hM,hdf,hE⟩ := hs
 unfold beginF at h
 split at h
 · rename_i ps as bd n' ks vs pd hi
   simp at h; subst h
   have hgr : RelV hz φ (HF l) (.yld i) := hM.objs k _ hg
   cases hgr with
   | yld _ _ c hp =>
   obtain ⟨g,c',r,q1,q2,q3,q4,q5⟩ := hM.objs i _ hi
   rw [hp] at q1; cases q1
   refine ⟨_,run_beginRound q2 q3.2.2.2.2.1,h2 a _ ⟨h1,hz,φ,?_,?_,hE⟩⟩
   · have := hM.loopState hi hp q2 .busy pd
     rw [show ({ r with state := LoopState.busy } : Go.Loop) = { r with state := .busy,pending := pd } by rw [← q3.2.2.2.2.2]]
     exact this
   · rw [hdf]
     congr 1
     exact (Ml st.σ i 0 [] hi (fun _ _ _ => rfl) (fun _ _ _ => rfl)).symm
 · cases h
def rdF (n0 i : Nat) (ρ : List Nat) (jump : Option Code) (st : St) : Option (PV × List AObj × List AObj) :=
 match st.σ[i]? with
 | some (.loop ps as bd n ks vs .busy _) =>
   if nodupB ρ then
    match Qv ρ (st.σ.set i (.loop ps as bd n ks vs (if jump.isNone then .ready else .done) jump)) with
    | some σ' => some (.d (.bool jump.isNone),σ',(st.σ.drop n0).take n0)
    | none => none
   else none
 | _ => none
def Se : Option Code → Option Exit
 | none => some .normal
 | some .ret => some .ret
 | some (.exit id) => some (.exit id)
 | _ => none
theorem NT {i k l : Nat} {ρ : List Nat} {jump : Option Code} {res : PV} {gs : List AObj} {gv : Nat → Value} {e : List Nat} {R : Ending → World → Prop} (hR : ∀ v w' hz' φ',Mem E hz' φ' σ' w' → RetR gv e σ res v w' hz' φ' → R (.returned v) w')
    (h : rdF σ.length i ρ jump st = some (res,σ',gs)) (hg : st.σ[k]? = some (.ghost (HF l) (.yld i))) (hi : (N9 σ.length ρ && nodupB ρ && Nat.ble σ.length i == false) = true)
    (hk : Ng e 0 σ gs = M6 gv e 0 σ) (hl : gs.length = σ.length) {ex : Exit} (hex : Se jump = some ex) : ∀ a w,Sim E n st a w → roundPost P l R ex a w := by
 intro a w hs
 obtain ⟨h1,hz,φ,hM,hdf,hE⟩ := hs
 simp only [Bool.and_eq_true,beq_iff_eq] at hi
 obtain ⟨⟨hid,hnd⟩,hlt⟩ := hi
 have hlt : i < σ.length := by
  rcases Nat.lt_or_ge i σ.length with h | h
  · exact h
  · rw [Nat.ble_eq_true_of_le h] at hlt; cases hlt
 unfold rdF at h
 split at h
 · rename_i ps as bd n' ks vs pd hloop
   rw [if_pos hnd] at h
   split at h
   · rename_i σ1 hσ
     simp only [Option.some.injEq,Prod.mk.injEq] at h; obtain ⟨rfl,rfl,rfl⟩ := h
     have hgr : RelV hz φ (HF l) (.yld i) := hM.objs k _ hg
     cases hgr with
     | yld _ _ c hp =>
     obtain ⟨g,c',r,q1,q2,q3,q4,q5⟩ := hM.objs i _ hloop
     rw [hp] at q1; cases q1
     have hM1 := hM.loopState hloop hp q2 (if jump.isNone then .ready else .done) jump
     have hrun := run_endRound (P := P) jump q2
     have fin : ∃ v w',(Instr.endRound l jump).run P w = .ok v w' ∧ R (.returned v) w' := by
      refine ⟨_,_,hrun,hR _ _ hz (projPhi φ ρ) (hM1.proj hnd hσ) ⟨.d (.bool _),fun j o hj hkl => ?_⟩⟩
      have hjl := AL hj
      have h1 := Kq σ _ 0 hk hl j o hj (by rw [Nat.zero_add]; exact hkl)
      rw [Nat.zero_add,List.getElem?_take,if_pos hjl,List.getElem?_drop] at h1
      have hgj : RelV hz φ (gv j) (gPV o j) := hM.objs _ _ h1
      refine RelV.ren proj_phi hgj _ ?_
      have h2 := J6 hnd (ident_get hid j hjl)
      cases o <;> simp only [gPV,PV.ren,h2]
     unfold Se at hex
     split at hex
     · cases hex; exact fin
     · cases hex; exact fin
     · cases hex; exact fin
     · cases hex
   · cases h
 · cases h
theorem IK : ∀ (l : List (Nat × Value)) (arr : Array Value) (t : Nat),((l.foldl (fun tm (x : Nat × Value) => tm.setIfInBounds x.1 x.2) arr).size = arr.size) ∧ ((∀ x ∈ l,x.1 ≠ t) → (l.foldl (fun tm (x : Nat × Value) => tm.setIfInBounds x.1 x.2) arr)[t]? = arr[t]?)
 | [],arr,t => ⟨rfl,fun _ => rfl⟩
 | x :: l,arr,t => by
   obtain ⟨h1,h2⟩ := IK l (arr.setIfInBounds x.1 x.2) t
   refine ⟨by rw [List.foldl_cons,h1]; simp,fun h => ?_⟩
   rw [List.foldl_cons,h2 (fun y hy => h y (List.mem_cons_of_mem _ hy)),Array.getElem?_setIfInBounds,if_neg (h x (by simp))]
theorem LQ : ∀ (ts : List Nat) (vals : List Value) (arr : Array Value) (j t : Nat) (v : Value),nodupB ts = true → ts[j]? = some t → vals[j]? = some v → t < arr.size → ((ts.zip vals).foldl (fun tm (x : Nat × Value) => tm.setIfInBounds x.1 x.2) arr)[t]? = some v
 | [],vals,arr,j,t,v,_,h,_,_ => by simp at h
 | _ :: _,[],arr,j,t,v,_,_,h,_ => by simp at h
 | x :: ts,u :: vals,arr,0,t,v,hn,h,hv,hl => by
   simp at h hv; subst h; subst hv
   simp only [nodupB,Bool.and_eq_true,Bool.not_eq_true'] at hn
   rw [List.zip_cons_cons,List.foldl_cons,(IK _ _ x).2 ?_]
   · simp [hl]
   · intro y hy he
     have := List.of_mem_zip hy
     have hc : ts.contains x = true := by rw [he] at this; simpa using this.1
     rw [hc] at hn; cases hn.1
 | x :: ts,u :: vals,arr,j + 1,t,v,hn,h,hv,hl => by
   simp only [nodupB,Bool.and_eq_true] at hn
   rw [List.zip_cons_cons,List.foldl_cons]
   exact LQ ts vals _ j t v hn.2 (by simpa using h) (by simpa using hv) (by simpa using hl)
theorem RdOK.intro {i : Nat} {args : List PV} {res : PV} {e : List Nat} {ps : Array Nat} {as bd : Code} {ks : List Nat} {vs : List PV} {pd : Option Code} (hi : σ[i]? = some (.loop ps as bd n ks vs .ready pd))
    (hc : (MK e 0 σ && eqN (marksOf (σ ++ ghs (fun _ => undef) 0 σ)) [] && nodupB ps.toList && RL ks ps.toList && Qb n ps.toList && Nat.beq ps.toList.length args.length) = true)
    (h : ∀ E gv l (R : Ending → World → Prop),(∀ v w' hz' φ',Mem E hz' φ' σ' w' → RetR gv e σ res v w' hz' φ' → R (.returned v) w') →
     At P (some l) E n as (Exit.then (fun a w => ∃ w2,(Instr.beginRound l).run P w = .ok () w2 ∧ bd.wpIn (wd (some l)) 0 P (roundPost P l R) a w2) (fun _ _ _ => False)) ⟨Pc ps.toList args ks vs,σ ++ ghs gv 0 σ ++ [.ghost (HF l) (.yld i)]⟩) : RdOK P i args σ res σ' e := by
 intro w hz own φ vals l c r hM hv hp hl
 simp only [Bool.and_eq_true] at hc
 obtain ⟨⟨⟨⟨⟨hbase,hmk⟩,hnd⟩,hdj⟩,hlt⟩,hsz⟩ := hc
 have hsz := Nat.eq_of_beq_eq_true hsz
 obtain ⟨g,c',r',q1,q2,q3,q4,q5⟩ := hM.objs i _ hi
 rw [hp] at q1; cases q1
 rw [hl] at q2; cases q2
 obtain ⟨p1,p2,p3,p4,p5,p6⟩ := q3
 rw [p2,p3,p1]
 refine roundIn_of_wpIn (F := Fence.wide) trivial ?_
 have hfold : (ps.zip vals).foldl (fun tmps (x : Nat × Value) => tmps.setIfInBounds x.1 x.2) r.tmps = (ps.toList.zip vals.toList).foldl (fun tmps (x : Nat × Value) => tmps.setIfInBounds x.1 x.2) r.tmps := by
  rw [← Array.foldl_toList]; simp
 rw [hfold]
 refine h ⟨w,hz,own⟩ (gvOf σ φ) l _ (fun v w' hz' φ' h1 h2 => Qw hM hbase h1 h2) _ w ?_
 have hMg := hM.ghosts hbase
 have hM2 : Mem ⟨w,hz,own⟩ hz φ (σ ++ ghs (gvOf σ φ) 0 σ ++ [.ghost (HF l) (.yld i)]) w := by
  have hget : ∀ (j : Nat) (o : AObj),(σ ++ ghs (gvOf σ φ) 0 σ ++ [AObj.ghost (HF l) (.yld i)])[j]? = some o → (σ ++ ghs (gvOf σ φ) 0 σ)[j]? = some o ∨ o = .ghost (HF l) (.yld i) := by
   intro j o hj
   rcases Nat.lt_or_ge j (σ ++ ghs (gvOf σ φ) 0 σ).length with hlt | hge
   · rw [List.getElem?_append_left hlt] at hj; exact .inl hj
   · rw [List.getElem?_append_right hge] at hj
     cases hq : j - (σ ++ ghs (gvOf σ φ) 0 σ).length with
     | zero => rw [hq] at hj; simp at hj; exact .inr hj.symm
     | succ m => rw [hq] at hj; simp at hj
  exact
  { knows := hMg.knows
    objs := fun j o hj => by
     rcases hget j o hj with h | rfl
     · exact hMg.objs j o h
     · exact RelV.yld i l c hp
    inj := fun a b oa ob g c c' ha hb la lb pa pb => by
     rcases hget a oa ha with h | rfl
     · rcases hget b ob hb with h' | rfl
       · exact hMg.inj a b oa ob g c c' h h' la lb pa pb
       · cases lb
     · cases la
    new := fun a o g c ha la pa => by
     rcases hget a o ha with h | rfl
     · exact hMg.new a o g c h la pa
     · cases la
    dom := fun j hj => hMg.dom j (by simp at hj ⊢; omega)
    caps := hM.caps
    os := hM.os,tape := hM.tape,output := hM.output,size := hM.size,kept := hM.kept,hle := hM.hle,hnew := hM.hnew }
 refine ⟨by rw [(IK _ _ 0).1]; exact p4,hz,φ,hM2,?_,?_⟩
 · have hm0 := N2 (gv := gvOf σ φ) hmk
   have app : ∀ (l : List AObj) (k : Nat) (acc : List Nat) (v : Value) (x : PV),DG k (l ++ [AObj.ghost v x]) acc = DG k l acc := by
    intro l
    induction l with
    | nil => intro k acc v x; rfl
    | cons o l ih =>
      intro k acc v x
      cases o with
      | mark => exact ih (k + 1) (k :: acc) v x
      | _ => exact ih (k + 1) acc v x
   unfold marksOf at hm0 ⊢
   rw [app,hm0]; rfl
 · intro t x hx
   have key : (JZ ps.toList args).lookup t = some x ∨ ((JZ ps.toList args).lookup t = none ∧ (JZ ks vs).lookup t = some x) := by
    unfold Pc at hx
    rw [List.lookup_append] at hx
    cases hq : (JZ ps.toList args).lookup t with
    | some y => rw [hq] at hx; simp at hx; exact .inl (by rw [hx])
    | none => rw [hq] at hx; exact .inr ⟨rfl,by simpa using hx⟩
   rcases key with h1 | ⟨_,h1⟩
   · obtain ⟨j,hj,hjx⟩ := Lu h1
     have hvr := hv.2 j x hjx
     have hjv : j < vals.size := by rw [hv.1]; exact AL hjx
     refine ⟨vals[j],LQ ps.toList vals.toList r.tmps j t vals[j] hnd hj (by simp [hjv]) (by rw [p4]; exact Mz hlt hj),?_⟩
     simpa [Array.getD_eq_getD_getElem?,hjv] using hvr
   · obtain ⟨j,hj,hjx⟩ := Lu h1
     obtain ⟨v,hv1,hv2⟩ := q4 j t x hj hjx
     refine ⟨v,?_,hv2⟩
     rw [(IK _ _ t).2 ?_]
     · exact hv1
     · intro y hy he
       have := List.of_mem_zip hy
       have hd := disjB_get hdj t (List.mem_of_getElem? hj)
       rw [he] at this
       have hc : ps.toList.contains t = true := by simpa using this.1
       rw [hd] at hc; cases hc
def rfσ (n : Nat) (ps : Array Nat) (as bd : Code) (ks : List Nat) (vs : List PV) (σ : List AObj) : List AObj := σ ++ [.mark,.loop ps as bd n ks vs .ready none]
def Lg (env : Env) : List Nat → Option (List PV)
 | [] => some []
 | t :: l => match env.lookup t,Lg env l with | some x,some r => some (x :: r) | _,_ => none
theorem Lf {env : Env} : ∀ {ks : List Nat} {vs : List PV},Lg env ks = some vs → ∀ (j t : Nat) (x : PV),ks[j]? = some t → vs[j]? = some x → env.lookup t = some x
 | [],vs,h,j,t,x,hk,_ => by simp at hk
 | k :: l,vs,h,j,t,x,hk,hv => by
   simp only [Lg] at h
   split at h
   · rename_i y r hy hr
     simp at h; subst h
     match j,hk,hv with
     | 0,hk,hv => simp at hk hv; subst hk; subst hv; exact hy
     | j + 1,hk,hv => exact Lf hr j t x (by simpa using hk) (by simpa using hv)
   · cases h
def rangeRec (pc : PC) (σ1 : List AObj) (out : PCOut) : Rec := ⟨none,.undef,out.eb,over (Ku (pc.ρ.take pc.n0) 0 σ1) out.σb,[],Ku (pc.ρ.take pc.n0) 0 σ1,(Ku (pc.ρ.take pc.n0) 0 σ1).length,out.σb.length⟩
def SJ : LoopState → Bool | .busy => false | _ => true
def Sk (P : Program) (E : Entry) (n : Nat) (Q : Exit → Act → World → Prop) (jump : Option Code) (st : St) : Prop :=
 match jump with | none => ∀ a w,Sim E n st a w → Q .normal a w | some c => At P none E n c Q st
def R2 (P : Program) (n : Nat) (g : Operand) (ps : Array Nat) (as bd : Code) (pc : PC) (ks : List Nat) (st : St) : Option (St × Option Code × List Prop) :=
 match Env.eval st.env g,Lg st.env ks with
 | some (.fn (.func f) first caps),some vs =>
   match La pc (first ++ [.yld (st.σ.length + 1)] ++ caps) (Ku (pc.ρ.take pc.n0) 0 (rfσ n ps as bd ks vs st.σ)) with
   | some out =>
     match (Rec.ap (rangeRec pc (rfσ n ps as bd ks vs st.σ) out) ⟨st.env,rfσ n ps as bd ks vs st.σ ++ List.replicate (pc.ρ.length - pc.n0) .dead⟩).σ[st.σ.length + 1]? with
     | some (.loop _ _ _ _ _ _ sl jump) =>
       if SJ sl && !(out.eb.contains (2 * (st.σ.length + 1))) && Ks P f && M9 (st.σ.length :: marksOf st.σ) out.eb (Ku (pc.ρ.take pc.n0) 0 (rfσ n ps as bd ks vs st.σ)) out.σb .undef && (PV.fn (.func f) first caps).inB (st.σ.length + 2) && plainσ (Ku (pc.ρ.take pc.n0) 0 (rfσ n ps as bd ks vs st.σ)) &&
           Nb (st.σ.length + 2) (Ku (pc.ρ.take pc.n0) 0 (rfσ n ps as bd ks vs st.σ)) && preB (rangeRec pc (rfσ n ps as bd ks vs st.σ) out) ⟨st.env,rfσ n ps as bd ks vs st.σ ++ List.replicate (pc.ρ.length - pc.n0) .dead⟩ &&
           eqN (marksOf ((Rec.ap (rangeRec pc (rfσ n ps as bd ks vs st.σ) out) ⟨st.env,rfσ n ps as bd ks vs st.σ ++ List.replicate (pc.ρ.length - pc.n0) .dead⟩).σ.set (st.σ.length + 1) .dead)) (st.σ.length :: marksOf st.σ) then
        some (⟨(Rec.ap (rangeRec pc (rfσ n ps as bd ks vs st.σ) out) ⟨st.env,rfσ n ps as bd ks vs st.σ ++ List.replicate (pc.ρ.length - pc.n0) .dead⟩).env,(Rec.ap (rangeRec pc (rfσ n ps as bd ks vs st.σ) out) ⟨st.env,rfσ n ps as bd ks vs st.σ ++ List.replicate (pc.ρ.length - pc.n0) .dead⟩).σ.set (st.σ.length + 1) .dead⟩,jump,[FnOK P f out.args out.σ pc.res pc.σ' pc.e])
       else none
     | _ => none
   | none => none
 | _,_ => none
theorem LO (T : List Nat) : ∀ (l : List AObj) (k : Nat),(Ku T k l).length = l.length
 | [],_ => rfl
 | o :: l,k => by simp [Ku,LO T l (k + 1)]
theorem Mem.letgo (hM : Mem E hz φ σ w) {i g c : Nat} {o : AObj} (O : Obj) (hi : σ[i]? = some o) (hl : o.live = true) (hp : φ i = some (some (g,c))) : Mem E hz φ (σ.set i .dead) (w.putObj g O) := by
 have hg := hM.at_lt hi hl hp
 have hne : ∀ k o,hz k = some o → k ≠ g := fun k o hk e => by subst e; rw [hg.2] at hk; cases hk
 have hget : ∀ j x,(σ.set i AObj.dead)[j]? = some x → (x = .dead) ∨ (j ≠ i ∧ σ[j]? = some x) := by
  intro j x hx
  rw [List.getElem?_set] at hx
  split at hx
  · split at hx
    · exact .inl (by simpa using hx.symm)
    · cases hx
  · rename_i e; exact .inr ⟨fun h => e h.symm,hx⟩
 exact
 { knows := fun k o hk => by rw [World.putObj_heap_other (hne k o hk)]; exact hM.knows k o hk
   objs := fun j x hx => by
    rcases hget j x hx with rfl | ⟨hne',hx⟩
    · trivial
    · refine (hM.objs j x hx).tr (Hp.le_refl _) (Phi.le_refl _) (fun k c' hk hlx _ hn => ⟨World.putObj_heap_other ?_,hn⟩)
      rintro rfl
      exact hne' (hM.inj j i x _ k c' c hx hi hlx hl hk hp)
   inj := fun a b oa ob k c1 c2 ha hb' la lb pa pb => by
    rcases hget a oa ha with rfl | ⟨_,ha⟩
    · cases la
    rcases hget b ob hb' with rfl | ⟨_,hb'⟩
    · cases lb
    exact hM.inj a b oa ob k c1 c2 ha hb' la lb pa pb
   new := fun a x k c1 ha la pa => by
    rcases hget a x ha with rfl | ⟨_,ha⟩
    · cases la
    exact hM.new a x k c1 ha la pa
   dom := fun j hj => hM.dom j (by simpa using hj)
   caps := hM.caps
   os := hM.os,tape := hM.tape,output := hM.output
   size := by rw [World.putObj_size]; exact hM.size
   kept := fun k a b => by
    rw [World.putObj_heap_other ?_]
    · exact hM.kept k a b
    · rintro rfl
      rcases hM.new i _ k c hi hl hp with h | h
      · omega
      · exact b h
   hle := hM.hle,hnew := hM.hnew }
theorem At.range {g : Operand} {ps : Array Nat} {as bd : Code} {pc : PC} {jump : Option Code} {obl : List Prop} (ks : List Nat) (h : R2 P n g ps as bd pc ks st = some (st',jump,obl)) (ho : ∀ p ∈ obl,p)
    (h2 : Sk P E n Q jump st') : At P none E n (.rangeFunc g ps as bd) Q st := by
 intro a w hs
 obtain ⟨h1,hz,φ,hM,hdf,hE⟩ := hs
 unfold R2 at h
 split at h
 case h_2 => cases h
 rename_i f first caps vs hg hvs
 split at h
 case h_2 => cases h
 rename_i out hcore
 split at h
 case h_2 => cases h
 rename_i q1 q2 q3 q4 q5 q6 sl jump' hloop
 split at h
 case isFalse => cases h
 rename_i hcond
 simp only [Option.some.injEq,Prod.mk.injEq] at h; obtain ⟨rfl,rfl,rfl⟩ := h
 simp only [Bool.and_eq_true] at hcond
 obtain ⟨⟨⟨⟨⟨⟨⟨⟨hnb,hne⟩,hca⟩,hok⟩,hfB⟩,hpl⟩,hobjB⟩,hpre⟩,hmk⟩ := hcond
 have hFn : FnOK P f out.args out.σ pc.res pc.σ' pc.e := ho _ (by simp)
 have hER : Hj hz φ st.env a := hE
 obtain ⟨φ1,le1,at1,hM1⟩ := hM.alloc (.deferred (some [])) 0 (Nat.zero_le _) .mark (fun φ' _ hp => ⟨_,_,hp,Fl w _,hM.fresh⟩)
 refine wpIn_rangeFunc (F := wd none) ?_
 intro fn hfn
 obtain ⟨rec,hrec⟩ : ∃ rec : Go.Loop,rec = { state := .ready,pending := none,fn,tmps := a.tmps,params := ps,assign := as,body := bd,defers := w.heap.size } := ⟨_,rfl⟩
 obtain ⟨φ2,le2,at2,hM2⟩ := hM1.alloc (.loop rec) 0 (Nat.zero_le _) (.loop ps as bd n ks vs .ready none) (fun φ' hle hp => by
  refine ⟨_,_,rec,hp,Fl _ _,by rw [hrec]; exact ⟨rfl,rfl,rfl,h1,rfl,rfl⟩,fun j t x hk hv => ?_,hM1.fresh⟩
  obtain ⟨v,hv1,hv2⟩ := hE t x (Lf hvs j t x hk hv)
  exact ⟨v,by rw [hrec]; exact hv1,hv2.mono (Hp.le_refl _) (fun i r hi => hle _ _ (le1 _ _ hi))⟩)
 have hsz1 : (w.alloc (.deferred (some []))).heap.size = w.heap.size + 1 := by simp
 have hlen1 : (st.σ ++ [AObj.mark]).length = st.σ.length + 1 := by simp
 have hσ1 : (st.σ ++ [AObj.mark]) ++ [.loop ps as bd n ks vs .ready none] = rfσ n ps as bd ks vs st.σ := by simp [rfσ]
 rw [hσ1] at hM2
 rw [hlen1] at at2
 rw [hsz1] at at2
 obtain ⟨W1,hW1⟩ : ∃ W1,(w.alloc (.deferred (some []))).alloc (.loop rec) = W1 := ⟨_,rfl⟩
 rw [hW1] at hM2
 have le12 : Phi.le φ φ2 := fun i r hi => le2 _ _ (le1 _ _ hi)
 have at1' : φ2 st.σ.length = some (some (w.heap.size,0)) := le2 _ _ at1
 obtain ⟨ms,hms⟩ : ∃ ms,st.σ.length :: marksOf st.σ = ms := ⟨_,rfl⟩
 have hmsB : msB ms (rfσ n ps as bd ks vs st.σ) = true := by
  rw [← hms]
  refine msB_of fun i hi => ?_
  rcases List.mem_cons.1 hi with rfl | hi
  · simp [rfσ]
  · have := msB_get (marksOf_B st.σ) i hi
    unfold rfσ
    rw [List.getElem?_append_left (AL this)]; exact this
 obtain ⟨a',ha'⟩ : ∃ a' : Act,{ a with defers := { target := .collected w.heap.size,args := #[] } :: a.defers } = a' := ⟨_,rfl⟩
 have hdf' : a'.defers = G5 φ2 ms := by
  rw [← ha',← hms]
  simp only [G5,List.map_cons,plc,at1']
  rw [hdf]
  congr 1
  exact Pg hM (marksOf_B _) le12
 have htm : a'.tmps = a.tmps := by rw [← ha']
 have hE1 : ∀ t x,st.env.lookup t = some x → ∃ v,a'.tmps[t]? = some v ∧ RelV hz φ2 v x := fun t x hx => by
  obtain ⟨v,hv,hr⟩ := hE t x hx
  exact ⟨v,by rw [htm]; exact hv,hr.mono (Hp.le_refl _) le12⟩
 obtain ⟨σ1,hσ1e⟩ : ∃ σ1,rfσ n ps as bd ks vs st.σ = σ1 := ⟨_,rfl⟩
 have hl1 : σ1.length = st.σ.length + 2 := by rw [← hσ1e]; simp [rfσ]
 have hL : σ1[st.σ.length + 1]? = some (.loop ps as bd n ks vs .ready none) := by
  rw [← hσ1e]; unfold rfσ; rw [List.getElem?_append_right (by omega)]; simp
 rw [hσ1e] at hM2 hmsB hcore hloop hok hpl hobjB hpre hmk h2
 obtain ⟨k,hk⟩ : ∃ k,pc.ρ.length - pc.n0 = k := ⟨_,rfl⟩
 rw [hk] at hloop hpre hmk h2
 have hM3 := hM2.pad k
 have hm3 : msB ms (σ1 ++ List.replicate k AObj.dead) = true := msB_of fun i hi => by
  have := msB_get hmsB i hi
  rw [List.getElem?_append_left (AL this)]; exact this
 obtain ⟨σL,hσL⟩ : ∃ σL,Ku (pc.ρ.take pc.n0) 0 σ1 = σL := ⟨_,rfl⟩
 have hlL : σL.length = st.σ.length + 2 := by rw [← hσL,LO,hl1]
 rw [hσL] at hcore hok hpl hobjB
 have hlocL : ∀ (i : Nat) (o : AObj),σL[i]? = some o → o.live = true → (σ1 ++ List.replicate k AObj.dead)[i]? = some o := by
  intro i o hi hl
  rw [← hσL] at hi
  have := Mk _ _ i o hi hl
  rw [List.getElem?_append_left (AL this)]; exact this
 have hPre : Pre (rangeRec pc σ1 out) (St.F ⟨st.env,σ1 ++ List.replicate k AObj.dead⟩) := by
  simp only [preB,Bool.and_eq_true] at hpre
  refine ⟨fun t x hx => by simp [rangeRec] at hx,fun i o hi hl => ?_,fun t x hx => envFree_get hpre.1.1 t x hx,fun i o hi => objFree_get hpre.1.2 i o hi,Nat.le_of_ble_eq_true hpre.2⟩
  exact hlocL i o (by rw [← hσL]; exact hi) hl
 have hRec : rangeRec pc σ1 out = ⟨none,.undef,out.eb,over σL out.σb,[],σL,σL.length,out.σb.length⟩ := by unfold rangeRec; rw [hσL]
 rw [← hlL] at hobjB
 have hMp := hM3.part hlocL (Gv hpl) hobjB
 have hgr : RelV hz (fun i => if i < σL.length then φ2 i else none) (a.eval g) (.fn (.func f) first caps) := ((hER.eval g _ hg).mono (Hp.le_refl _) le12).cut (by rw [hlL]; exact hfB)
 obtain ⟨va,vb,hva,hv1,hv2⟩ : ∃ va vb,a.eval g = .func (.func f) va vb ∧ RelL hz (fun i => if i < σL.length then φ2 i else none) va first ∧ RelL hz (fun i => if i < σL.length then φ2 i else none) vb caps := by
  generalize a.eval g = q at hgr
  cases hgr with
  | fn _ x y _ _ h1 h2 r1 r2 => exact ⟨x,y,rfl,⟨h1,r1⟩,⟨h2,r2⟩⟩
 have hyr : RelV hz φ2 (HF (w.heap.size + 1)) (.yld (st.σ.length + 1)) := .yld _ _ 0 at2
 have hyl : RelL hz (fun i => if i < σL.length then φ2 i else none) #[HF (w.heap.size + 1)] [.yld (st.σ.length + 1)] := by
  refine ⟨rfl,fun j x hj => ?_⟩
  match j,hj with
  | 0,hj => simp at hj; subst hj; exact .yld _ _ 0 (by simp [hlL,at2])
  | j + 1,hj => simp at hj
 have hcalls := FnOK.use hcore hFn hMp ((hv1.app hyl).app hv2)
 refine ⟨w.heap.size + 1,[{ target := .collected w.heap.size,args := #[] }],W1,{ target := .fn (.func f) vb,args := va ++ #[HF (w.heap.size + 1)] },W1,f,va ++ #[HF (w.heap.size + 1)] ++ vb,W1,?_,?_,fun _ _ => trivial,?_,fun h => (by cases h),callsIn_wide.2 (hcalls.mono ?_)⟩
 · rw [← hW1,hrec]; exact run_enterLoop_outer _ _ _ _ _
 · have hm : Array.map a.eval #[Operand.const (Value.func (Fn.yield (w.heap.size + 1)) #[] #[])] = #[HF (w.heap.size + 1)] := by simp [Act.eval]
   simp only [resolve,Deferred.ofValue,hva,hm]
   rfl
 · simp only [invoke]
   exact I9 hca _ _
 · rintro en w3 ⟨v,hz',φ',rfl,k1,k2,k3⟩
   rw [hRec] at hPre
   rw [hms] at hok
   obtain ⟨hM4,hmk4,hmb4,hcar⟩ := MX (s := St.F ⟨st.env,σ1 ++ List.replicate k AObj.dead⟩) hM3 hm3 hPre hok k2 k3
   rw [← hRec] at hM4 hmb4 hPre
   rw [← ap_F] at hM4 hmb4
   have hy4 : RelV hz' (fun i => if i < out.σb.length then φ' i else φ2 i) (HF (w.heap.size + 1)) (effO out.eb (.yld (st.σ.length + 1))) := hcar _ _ hyr (by simp [PV.noM,hlL])
   obtain ⟨ψ,hψ⟩ : ∃ ψ : Phi,(fun i => if i < out.σb.length then φ' i else φ2 i) = ψ := ⟨_,rfl⟩
   rw [hψ] at hM4 hy4 hmk4 hcar
   obtain ⟨g4,c4,r4,p1,p2,p3,p4,p5⟩ := hM4.objs _ _ hloop
   have hne' : ¬ out.eb.contains (2 * (st.σ.length + 1)) = true := by
    intro hc; rw [hc] at hne; cases hne
   simp only [effO] at hy4
   rw [if_neg hne'] at hy4
   have hpl : ψ (st.σ.length + 1) = some (some (w.heap.size + 1,c4)) := by
    cases hy4 with
    | yld _ _ c h => rw [p1] at h; cases h; exact p1
   rw [hpl] at p1; cases p1
   have hst5 : ∀ W,W = w3.putObj (w.heap.size + 1) (.loop { r4 with state := .exhausted }) → Sim E n ⟨(Rec.ap (rangeRec pc σ1 out) ⟨st.env,σ1 ++ List.replicate k AObj.dead⟩).env,(Rec.ap (rangeRec pc σ1 out) ⟨st.env,σ1 ++ List.replicate k AObj.dead⟩).σ.set (st.σ.length + 1) .dead⟩ a' W := by
    rintro W rfl
    refine ⟨by rw [htm]; exact h1,hz',ψ,hM4.letgo _ hloop rfl hpl,?_,?_⟩
    · rw [Mu hmk,hms,hdf']; exact hmk4
    · intro t y hy
      simp only [Rec.ap,rangeRec,Env.putO] at hy
      rw [Jq] at hy
      obtain ⟨x,hx,rfl⟩ := Option.map_eq_some_iff.1 hy
      obtain ⟨u,hu,hru⟩ := hE1 t x hx
      refine ⟨u,hu,hcar u x hru ?_⟩
      have := hPre.free t x hx
      simpa [hRec] using this
   refine ⟨_,_,run_endLoop p2 ?_,?_⟩
   · rw [p3.2.2.2.2.1]; intro e; rw [e] at hnb; cases hnb
   · have h5 := hst5 _ rfl
     rw [← ha'] at h5
     have hp := p3.2.2.2.2.2
     unfold Sk at h2
     cases hq : r4.pending with
     | none =>
       rw [hq] at hp; subst hp
       rw [hq] at h5
       exact h2 _ _ h5
     | some c =>
       rw [hq] at hp; subst hp
       rw [hq] at h5
       exact h2 _ _ h5
end
end Go.Ab
