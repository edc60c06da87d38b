/- States seen with less in them: nil lists become rows, capacities are forgotten, cells are hidden, rows are settled. -/
import Derived.Test.YtgldclhdieafkaaGreatAbDraw4
namespace Go.Ab
open Go.RowKit
inductive Ed where
 | ownS (t : Nat) (e : TypeId) (sz : Nat)
 | ownC (t j : Nat) (e : TypeId) (sz : Nat)
 | ownO (i j : Nat) (e : TypeId) (sz : Nat)
 | loS (t : Nat)
 | loO (i : Nat)
 | hideO (i j : Nat)
 | settle (i : Nat)
 | hideG (i : Nat)
 | mapD (i : Nat) (ag : Bool)
 | reO (i j k : Nat)
 | reS (t k : Nat)
def OK : PV → Bool
 | .d (.list true 0 []) => true
 | _ => false
theorem Li {x : PV} (h : OK x = true) : x = .d (.list true 0 []) := by
 unfold OK at h
 split at h
 · rfl
 · cases h
def dropK (k : Nat) (x : PV) : PV := x.sub k fun _ => .undef
def dropσ (k : Nat) (e : TypeId) (sz : Nat) (σ : List AObj) : List AObj := (σ.map (AObj.sub k fun _ => .undef)).set k (.row e sz [])
def edF0 : Ed → St → Option St
 | .ownS t e sz,st =>
   match st.env.lookup t with
   | some x => if OK x then some ⟨Env.put st.env t (.row st.σ.length 0),st.σ ++ [.row e sz []]⟩ else none
   | none => none
 | .ownC t j e sz,st =>
   match st.env.lookup t with
   | some (.agg cs) => match cs[j]? with
     | some x => if OK x then some ⟨Env.put st.env t (.agg (cs.set j (.row st.σ.length 0))),st.σ ++ [.row e sz []]⟩ else none
     | none => none
   | _ => none
 | .ownO i j e sz,st =>
   match st.σ[i]? with
   | some (.blk ty cs) => match cs[j]? with
     | some x => if OK x then some ⟨st.env,st.σ.set i (.blk ty (cs.set j (.row st.σ.length 0))) ++ [.row e sz []]⟩ else none
     | none => none
   | _ => none
 | .loS t,st => match st.env.lookup t with | some x => some ⟨Env.put st.env t x.lo,st.σ⟩ | none => none
 | .loO i,st => match st.σ[i]? with | some o => some ⟨st.env,st.σ.set i o.lo⟩ | none => none
 | .hideO i j,st => match st.σ[i]? with | some (.blk ty cs) => some ⟨st.env,st.σ.set i (.blk ty (cs.set j .undef))⟩ | _ => none
 | .hideG i,st => match st.σ[i]? with | some (.ghost v _) => some ⟨st.env,st.σ.set i (.ghost v .undef)⟩ | _ => none
 | .mapD i ag,st => match st.σ[i]? with | some (.mp ks vs) => (match mpD ag ks vs with | some l => some ⟨st.env,st.σ.set i (.dmp ag l)⟩ | none => none) | _ => none
 | .reO i j k,st =>
   match st.σ[k]?,st.σ[i]? with
   | some (.row e sz _),some (.blk ty cs) => (match cs[j]? with
     | some x => if OK x && !(Nat.beq i k) then some ⟨st.env.map (fun p => (p.1,dropK k p.2)),(dropσ k e sz st.σ).set i (.blk ty ((PV.subs k (fun _ => .undef) cs).set j (.row k 0)))⟩ else none
     | none => none)
   | _,_ => none
 | .reS t k,st =>
   match st.σ[k]?,st.env.lookup t with
   | some (.row e sz _),some x => if OK x then some ⟨Env.put (st.env.map (fun p => (p.1,dropK k p.2))) t (.row k 0),dropσ k e sz st.σ⟩ else none
   | _,_ => none
 | .settle i,st => match Ho [i] st.env st.σ with | some (env,σ) => some ⟨env,σ⟩ | none => none
def edF (e : Ed) (st : St) : Option St := match edF0 e st with | some st' => if eqN (marksOf st'.σ) (marksOf st.σ) then some st' else none | none => none
def edsF : List Ed → St → Option St
 | [],st => some st
 | e :: l,st => match edF e st with | some st' => edsF l st' | none => none
section
variable {P : Program} {ro : Option Nat} {E : Entry} {n : Nat} {hz : Hp} {φ : Phi} {σ σ' : List AObj} {a : Act} {w : World}
theorem Mem.objs_to (hM : Mem E hz φ σ w) (hl : σ'.length = σ.length) (ho : ∀ i o',σ'[i]? = some o' → ObjRel hz φ w i o' ∧ (o'.live = true → ∃ o,σ[i]? = some o ∧ o.live = true)) : Mem E hz φ σ' w :=
 { knows := hM.knows
   objs := fun i o hi => (ho i o hi).1
   inj := fun i j oi oj g c c' hi hj li lj pi pj => by
    obtain ⟨x,hx,lx⟩ := (ho i oi hi).2 li
    obtain ⟨y,hy,ly⟩ := (ho j oj hj).2 lj
    exact hM.inj i j x y g c c' hx hy lx ly pi pj
   new := fun i o g c hi li pi => by
    obtain ⟨x,hx,lx⟩ := (ho i o hi).2 li
    exact hM.new i x g c hx lx pi
   dom := fun i hi => hM.dom i (by rw [← hl]; exact hi)
   caps := hM.caps
   os := hM.os,tape := hM.tape,output := hM.output,size := hM.size,kept := hM.kept,hle := hM.hle,hnew := hM.hnew }
theorem Mem.set_to (hM : Mem E hz φ σ w) {i : Nat} {o o' : AObj} (hi : σ[i]? = some o) (hl : o'.live = o.live) (ho : ObjRel hz φ w i o') : Mem E hz φ (σ.set i o') w := by
 refine hM.objs_to (by simp) fun j x hj => ?_
 rw [List.getElem?_set] at hj
 split at hj
 · rename_i e; subst e
   split at hj
   · simp at hj; subst hj; exact ⟨ho,fun h => ⟨o,hi,by rw [← hl]; exact h⟩⟩
   · cases hj
 · exact ⟨hM.objs j x hj,fun h => ⟨x,hj,h⟩⟩
theorem nil_row {φ' : Phi} {v : Value} {k : Nat} (h : RelV hz φ v (.d (.list true 0 []))) (hp : φ' k = some none) : RelV hz φ' v (.row k 0) := by
 have hd := relV_d h
 cases hd with
 | list0 a cap _ ht hm => have := ht rfl; subst this; exact .rowNil _ _ hp
 | list g off _ cap _ _ arr e2 fr f hg hn hm ht hx2 hr2 => have := ht rfl; subst this; exact .rowNil _ _ hp
theorem Mem.drop (hM : Mem E hz φ σ w) {k : Nat} {e : TypeId} {sz : Nat} {cs : List D} (hk : σ[k]? = some (.row e sz cs)) : Mem E hz (φ.set k (some none)) (dropσ k e sz σ) w := by
 have hlt := AL hk
 have ho : ∀ j x,j ≠ k → φ j = some x → (φ.set k (some none)) j = some x := fun j x hj h => by rw [Phi.set_other _ _ hj]; exact h
 have back : ∀ j g c,(φ.set k (some none)) j = some (some (g,c)) → j ≠ k ∧ φ j = some (some (g,c)) := by
  intro j g c h
  by_cases hj : j = k
  · subst hj; rw [Phi.set_same] at h; cases h
  · rw [Phi.set_other _ _ hj] at h; exact ⟨hj,h⟩
 exact
 { knows := hM.knows
   objs := fun j x hx => by
    rcases get_set_sub hx with ⟨rfl,rfl⟩ | ⟨hne,y,hy,rfl⟩
    · exact .inl ⟨Phi.set_same _ _ _,rfl⟩
    · exact (hM.objs j y hy).put hne (Hp.le_refl _) ho (fun _ _ _ => .undef _) (fun _ _ _ _ _ hn => ⟨rfl,hn⟩)
   inj := fun a b oa ob g c1 c2 ha hb la lb pa pb => by
    obtain ⟨na,pa⟩ := back _ _ _ pa
    obtain ⟨nb,pb⟩ := back _ _ _ pb
    rcases get_set_sub ha with ⟨ea,_⟩ | ⟨_,ya,hya,rfl⟩
    · exact absurd ea na
    rcases get_set_sub hb with ⟨eb,_⟩ | ⟨_,yb,hyb,rfl⟩
    · exact absurd eb nb
    exact hM.inj a b ya yb g c1 c2 hya hyb (by rw [← sub_live]; exact la) (by rw [← sub_live]; exact lb) pa pb
   new := fun a x g c1 ha la pa => by
    obtain ⟨na,pa⟩ := back _ _ _ pa
    rcases get_set_sub ha with ⟨ea,_⟩ | ⟨_,ya,hya,rfl⟩
    · exact absurd ea na
    exact hM.new a ya g c1 hya (by rw [← sub_live]; exact la) pa
   dom := fun j hj => by
    have hj' : σ.length ≤ j := by simpa [dropσ] using hj
    rw [Phi.set_other _ _ (by omega)]; exact hM.dom j hj'
   caps := fun i g c h => hM.caps i g c (back _ _ _ h).2
   os := hM.os,tape := hM.tape,output := hM.output,size := hM.size,kept := hM.kept,hle := hM.hle,hnew := hM.hnew }
theorem RelV.drop {k : Nat} {v : Value} {x : PV} (h : RelV hz φ v x) : RelV hz (φ.set k (some none)) v (dropK k x) :=
 h.sub (Hp.le_refl _) (fun j x hj h => by rw [Phi.set_other _ _ hj]; exact h) (fun _ _ _ => .undef _)
theorem MT {k : Nat} {e : TypeId} {sz : Nat} {cs : List D} (hk : σ[k]? = some (.row e sz cs)) (hM : Mem E hz φ σ w) : G5 φ (marksOf σ) = G5 (φ.set k (some none)) (marksOf σ) := by
 unfold G5
 apply List.map_congr_left
 intro i hi
 have hb := msB_get (marksOf_B σ) i hi
 have hne : i ≠ k := by
  intro h; subst h; rw [hk] at hb; cases hb
 simp only [plc,Phi.set_other _ _ hne]
theorem Pg {φ' : Phi} {ms : List Nat} (hM : Mem E hz φ σ w) (hb : msB ms σ = true) (hle : Phi.le φ φ') : G5 φ ms = G5 φ' ms := by
 unfold G5
 apply List.map_congr_left
 intro i hi
 obtain ⟨g,c,h1,_⟩ := hM.objs i _ (msB_get hb i hi)
 simp only [plc,h1,hle _ _ h1]
theorem PA {hz' : Hp} {φ' : Phi} {env : Env} {t : Nat} {x : PV} (hE : ∀ s y,env.lookup s = some y → ∃ v,a.tmps[s]? = some v ∧ RelV hz' φ' v y) (hx : ∃ v,a.tmps[t]? = some v ∧ RelV hz' φ' v x) :
    ∀ s y,(Env.put env t x).lookup s = some y → ∃ v,a.tmps[s]? = some v ∧ RelV hz' φ' v y := by
 intro s y hy
 rw [lookup_put] at hy
 split at hy
 · rename_i e; subst e; simp at hy; subst hy; exact hx
 · exact hE s y hy
theorem Sim.ed {e : Ed} {st st' : St} (h : Sim E n st a w) (he : edF e st = some st') : Sim E n st' a w := by
 unfold edF at he
 split at he
 case h_2 => cases he
 rename_i st1 he0
 split at he
 case isFalse => cases he
 rename_i hmk
 simp at he; subst he
 have hmk := Mu hmk
 obtain ⟨h1,hz,φ,hM,hdf,hE⟩ := h
 cases e with
 | ownS t ty sz =>
   simp only [edF0] at he0
   split at he0
   · rename_i x hx
     split at he0
     · rename_i hn
       have := Li hn; subst this
       simp at he0; subst he0
       obtain ⟨φ',hle,hp,hM'⟩ := hM.allocNil ty sz
       obtain ⟨v,hv,hr⟩ := hE t _ hx
       refine ⟨h1,hz,φ',hM',?_,PA (fun s y hy => ?_) ⟨v,hv,nil_row hr hp⟩⟩
       · rw [hmk,hdf]; exact Pg hM (marksOf_B _) hle
       · obtain ⟨u,hu,hur⟩ := hE s y hy; exact ⟨u,hu,hur.mono (Hp.le_refl _) hle⟩
     · cases he0
   · cases he0
 | ownC t j ty sz =>
   simp only [edF0] at he0
   split at he0
   · rename_i cs hx
     split at he0
     · rename_i x hcx
       split at he0
       · rename_i hn
         have := Li hn; subst this
         simp at he0; subst he0
         obtain ⟨φ',hle,hp,hM'⟩ := hM.allocNil ty sz
         obtain ⟨v,hv,hr⟩ := hE t _ hx
         refine ⟨h1,hz,φ',hM',?_,PA (fun s y hy => ?_) ⟨v,hv,?_⟩⟩
         · rw [hmk,hdf]; exact Pg hM (marksOf_B _) hle
         · obtain ⟨u,hu,hur⟩ := hE s y hy; exact ⟨u,hu,hur.mono (Hp.le_refl _) hle⟩
         · cases hr with
           | agg arr _ hs hrr =>
           refine .agg arr _ (by simpa using hs) fun k y hk => ?_
           rw [List.getElem?_set] at hk
           split at hk
           · rename_i e; subst e
             split at hk
             · simp at hk; subst hk; exact nil_row (hrr _ _ hcx) hp
             · cases hk
           · exact (hrr k y hk).mono (Hp.le_refl _) hle
       · cases he0
     · cases he0
   · cases he0
 | ownO i j ty sz =>
   simp only [edF0] at he0
   split at he0
   · rename_i tb cs hi
     split at he0
     · rename_i x hcx
       split at he0
       · rename_i hn
         have := Li hn; subst this
         simp at he0; subst he0
         obtain ⟨φ',hle,hp,hM'⟩ := hM.allocNil ty sz
         have hilt := AL hi
         have hi' : (st.σ ++ [AObj.row ty sz []])[i]? = some (.blk tb cs) := by rw [List.getElem?_append_left hilt]; exact hi
         obtain ⟨g,c,arr,q1,q2,q3,q4,q5⟩ := hM'.objs i _ hi'
         have hM2 := hM'.set_to (o' := .blk tb (cs.set j (.row st.σ.length 0))) hi' rfl ⟨g,c,arr,q1,q2,by simpa using q3,fun k y hk => by
          rw [List.getElem?_set] at hk
          split at hk
          · rename_i e; subst e
            split at hk
            · simp at hk; subst hk; exact nil_row (q4 _ _ hcx) hp
            · cases hk
          · exact q4 k y hk,q5⟩
         rw [List.set_append_left _ _ hilt] at hM2
         refine ⟨h1,hz,φ',hM2,?_,fun s y hy => ?_⟩
         · rw [hmk,hdf]; exact Pg hM (marksOf_B _) hle
         · obtain ⟨u,hu,hur⟩ := hE s y hy; exact ⟨u,hu,hur.mono (Hp.le_refl _) hle⟩
       · cases he0
     · cases he0
   · cases he0
 | loS t =>
   simp only [edF0] at he0
   split at he0
   · rename_i x hx
     simp at he0; subst he0
     obtain ⟨v,hv,hr⟩ := hE t _ hx
     exact ⟨h1,hz,φ,hM,hdf,PA hE ⟨v,hv,hr.lo⟩⟩
   · cases he0
 | loO i =>
   simp only [edF0] at he0
   split at he0
   · rename_i o hi
     simp at he0; subst he0
     exact ⟨h1,hz,φ,hM.set_to hi (Nf o) (hM.objs i o hi).lo,by rw [hmk]; exact hdf,hE⟩
   · cases he0
 | hideO i j =>
   simp only [edF0] at he0
   split at he0
   · rename_i tb cs hi
     simp at he0; subst he0
     obtain ⟨g,c,arr,q1,q2,q3,q4,q5⟩ := hM.objs i _ hi
     refine ⟨h1,hz,φ,hM.set_to hi rfl ⟨g,c,arr,q1,q2,by simpa using q3,fun k y hk => ?_,q5⟩,by rw [hmk]; exact hdf,hE⟩
     rw [List.getElem?_set] at hk
     split at hk
     · split at hk
       · simp at hk; subst hk; exact .undef _
       · cases hk
     · exact q4 k y hk
   · cases he0
 | hideG i =>
   simp only [edF0] at he0
   split at he0
   · rename_i v x hi
     simp at he0; subst he0
     exact ⟨h1,hz,φ,hM.set_to hi rfl (.undef _),by rw [hmk]; exact hdf,hE⟩
   · cases he0
 | mapD i ag =>
   simp only [edF0] at he0
   split at he0
   · rename_i ks vs hi
     split at he0
     · rename_i l hl
       simp at he0; subst he0
       exact ⟨h1,hz,φ,hM.set_to hi rfl (mpD_rel (hM.objs i _ hi) hl),by rw [hmk]; exact hdf,hE⟩
     · cases he0
   · cases he0
 | reO i j k =>
   simp only [edF0] at he0
   split at he0
   · rename_i e sz cs0 ty cs hk hi
     split at he0
     · rename_i x hcx
       split at he0
       · rename_i hn
         simp only [Bool.and_eq_true,Bool.not_eq_true'] at hn
         have := Li hn.1; subst this
         have hik : i ≠ k := fun e => by subst e; rw [Nat.beq_refl] at hn; cases hn.2
         simp at he0; subst he0
         have hM' := hM.drop hk
         have hi' : (dropσ k e sz st.σ)[i]? = some (.blk ty (PV.subs k (fun _ => .undef) cs)) := by
          unfold dropσ
          rw [List.getElem?_set,if_neg (Ne.symm hik),List.getElem?_map,hi]; rfl
         obtain ⟨g,c,arr,q1,q2,q3,q4,q5⟩ := hM'.objs i _ hi'
         obtain ⟨g0,c0,arr0,p1,p2,p3,p4,p5⟩ := hM.objs i _ hi
         have q1' := q1
         rw [Phi.set_other _ _ hik,p1] at q1'
         cases q1'
         rw [p2] at q2; cases q2
         have hM2 := hM'.set_to (o' := .blk ty ((PV.subs k (fun _ => .undef) cs).set j (.row k 0))) hi' rfl ⟨_,_,_,q1,p2,by simpa using q3,fun m y hm => by
          rw [List.getElem?_set] at hm
          split at hm
          · rename_i e; subst e
            split at hm
            · simp at hm; subst hm; exact nil_row (p4 _ _ hcx) (Phi.set_same _ _ _)
            · cases hm
          · exact q4 m y hm,q5⟩
         refine ⟨h1,hz,_,hM2,?_,fun s y hy => ?_⟩
         · rw [hmk,hdf]; exact MT hk hM
         · rw [Jq] at hy
           obtain ⟨z,hz',rfl⟩ := Option.map_eq_some_iff.1 hy
           obtain ⟨u,hu,hur⟩ := hE s z hz'
           exact ⟨u,hu,hur.drop⟩
       · cases he0
     · cases he0
   · cases he0
 | reS t k =>
   simp only [edF0] at he0
   split at he0
   · rename_i e sz cs0 x hk hx
     split at he0
     · rename_i hn
       have := Li hn; subst this
       simp at he0; subst he0
       obtain ⟨v,hv,hr⟩ := hE t _ hx
       refine ⟨h1,hz,_,hM.drop hk,?_,PA (fun s y hy => ?_) ⟨v,hv,nil_row hr (Phi.set_same _ _ _)⟩⟩
       · rw [hmk,hdf]; exact MT hk hM
       · rw [Jq] at hy
         obtain ⟨z,hz',rfl⟩ := Option.map_eq_some_iff.1 hy
         obtain ⟨u,hu,hur⟩ := hE s z hz'
         exact ⟨u,hu,hur.drop⟩
     · cases he0
   · cases he0
 | settle i =>
   simp only [edF0] at he0
   split at he0
   · rename_i env σ1 hs
     simp at he0; subst he0
     obtain ⟨hz',hM',hE'⟩ := F1 (a := a) hM hE hs
     exact ⟨h1,hz',φ,hM',by rw [hmk]; exact hdf,hE'⟩
   · cases he0
theorem Sim.eds : ∀ {l : List Ed} {st st' : St},Sim E n st a w → edsF l st = some st' → Sim E n st' a w
 | [],st,st',h,he => by simp [edsF] at he; subst he; exact h
 | e :: l,st,st',h,he => by
   simp only [edsF] at he
   split at he
   · rename_i st1 h1; exact Sim.eds (h.ed h1) he
   · cases he
theorem At.eds {c : Code} {Q : Exit → Act → World → Prop} {st st' : St} (l : List Ed) (h : edsF l st = some st') (h2 : At P ro E n c Q st') : At P ro E n c Q st := fun a w hs => h2 a w (hs.eds h)
def edNar (l : List Ed) (ks ρ : List Nat) (st : St) : Option St := match edsF l st with | some st => narR ks ρ st | none => none
theorem Sim.edNar {l : List Ed} {ks ρ : List Nat} {st st' : St} (h : Sim E n st a w) (he : edNar l ks ρ st = some st') : Sim E n st' a w := by
 unfold Go.Ab.edNar at he
 split at he
 · rename_i st1 h1; exact (h.eds h1).nar he
 · cases he
theorem At.edNar {c : Code} {Q : Exit → Act → World → Prop} {st st' : St} (l : List Ed) (ks ρ : List Nat) (h : Go.Ab.edNar l ks ρ st = some st') (h2 : At P ro E n c Q st') : At P ro E n c Q st := fun a w hs => h2 a w (hs.edNar h)
theorem edq {l : List Ed} {ks ρ : List Nat} {st st' : St} {q : Act → World → Prop} (h : Go.Ab.edNar l ks ρ st = some st') (hq : ∀ a w,Sim E n st' a w → q a w) : ∀ a w,Sim E n st a w → q a w := fun a w hs => hq a w (hs.edNar h)
end
end Go.Ab
