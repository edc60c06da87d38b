/- A function's body: how it is entered, how it returns. -/
import Derived.Test.YtgldclhdieafkaaGreatAbEd
namespace Go.Ab
open Go.RowKit
def Ru (P : Program) (env : Env) (σ : List AObj) : ResultVar → Option (PV × List Prop)
 | .tmp t => (env.lookup t).map fun x => (x,[])
 | .cell t ty =>
   match env.lookup t with
   | some (.ptr i off) => match OX P ty (.ptr i off) σ .no with
     | some out => some (out.res,out.obl)
     | none => none
   | _ => none
def NU (P : Program) (env : Env) (σ : List AObj) : List ResultVar → Option (List PV × List Prop)
 | [] => some ([],[])
 | r :: l => match Ru P env σ r,NU P env σ l with | some x,some y => some (x.1 :: y.1,x.2 ++ y.2) | _,_ => none
def So : List PV → PV
 | [x] => x
 | l => .tup l
def LT : Nat → List PV → Env
 | _,[] => []
 | k,x :: l => (k,x) :: LT (k + 1) l
def gPV : AObj → Nat → PV
 | .row _ _ _,i => .row i 0
 | _,i => .ptr i 0
def ghs (gv : Nat → Value) : Nat → List AObj → List AObj
 | _,[] => []
 | i,o :: l => .ghost (gv i) (gPV o i) :: ghs gv (i + 1) l
def Lh : AObj → Bool | .row _ _ _ => true | _ => false
def KP (e : List Nat) (o : AObj) (i : Nat) : Bool := if Lh o then e.contains (2 * i + 1) else e.contains (2 * i)
def Ng (e : List Nat) : Nat → List AObj → List AObj → List AObj
 | i,o :: l,g :: r => if KP e o i then Ng e (i + 1) l r else g :: Ng e (i + 1) l r
 | _,_,_ => []
def M6 (gv : Nat → Value) (e : List Nat) : Nat → List AObj → List AObj
 | _,[] => []
 | i,o :: l => if KP e o i then M6 gv e (i + 1) l else .ghost (gv i) (gPV o i) :: M6 gv e (i + 1) l
def MK (e : List Nat) : Nat → List AObj → Bool
 | _,[] => true
 | i,o :: l => o.live && (if Lh o then e.contains (2 * i) else e.contains (2 * i + 1)) && MK e (i + 1) l
def shutM : List AObj → List AObj
 | [] => []
 | .mark :: l => .dead :: shutM l
 | o :: l => o :: shutM l
def retF (P : Program) (fn : Func) (n0 : Nat) (ρ : List Nat) (st : St) : Option (PV × List AObj × List AObj × List Prop) :=
 match NU P st.env (shutM st.σ) fn.results.toList with
 | some (l,obl) =>
   if nodupB ρ then
    match PV.rens (ixOf ρ) l,Qv ρ (shutM st.σ) with
    | some l',some σ' => some (So l',σ',(st.σ.drop n0).take n0,obl)
    | _,_ => none
   else none
 | none => none
abbrev FinP (P : Program) (fn : Func) (R : Ending → World → Prop) : Exit → Act → World → Prop := bodyPostM Fence.wide 0 P fn R
section
variable {P : Program} {ro : Option Nat} {fn : Func} {hz hz' : Hp} {φ φ' : Phi} {σ σ' : List AObj} {env : Env} {a : Act} {w w' : World} {E : Entry} {n : Nat}
theorem OD {r : ResultVar} {x : PV × List Prop} (hM : Mem E hz φ σ w) (hE : Hj hz φ env a) (h : Ru P env σ r = some x) (ho : ∀ p ∈ x.2,p) :
    ∃ v,(match r with | .tmp t => pure (a.tmps.getD t undef) | .cell t ty => do loadVar ty (← asAddr (a.tmps.getD t undef)) : Sem Value).run P w = .ok v w ∧ RelV hz φ v x.1 := by
 cases r with
 | tmp t =>
   simp [Ru] at h
   obtain ⟨y,hy,rfl⟩ := h
   obtain ⟨v,hv,hr⟩ := hE t y hy
   exact ⟨v,by simp [Array.getD_eq_getD_getElem?,hv],hr⟩
 | cell t ty =>
   simp only [Ru] at h
   split at h
   · rename_i i off hl
     obtain ⟨v,hv,hr⟩ := hE t _ hl
     split at h
     · rename_i out hout
       simp at h; subst h
       obtain ⟨u,hu,hru,_,_⟩ := aLoad_ok (P := P) hM hr hout ho
       cases hr with
       | ptr _ _ g c hp =>
       have e1 : a.tmps.getD t undef = .pointer (some ⟨g,off,none⟩) := by simp [Array.getD_eq_getD_getElem?,hv]
       simp only [e1,asAddr]
       refine ⟨u,?_,hru⟩
       simpa [Instr.loadAt,Instr.sureAddr] using hu
     · cases h
   · cases h
theorem LM : ∀ {l : List ResultVar} {x : List PV × List Prop},Mem E hz φ σ w → Hj hz φ env a → NU P env σ l = some x → (∀ p ∈ x.2,p) →
    ∃ vs : List Value,(l.mapM (m := Sem) fun | .tmp t => pure (a.tmps.getD t undef) | .cell t ty => do loadVar ty (← asAddr (a.tmps.getD t undef))).run P w = .ok vs w ∧ vs.length = x.1.length ∧ ∀ (j : Nat) (y : PV),x.1[j]? = some y → RelV hz φ (vs.getD j undef) y
 | [],x,hM,hE,h,_ => by simp [NU] at h; subst h; exact ⟨[],rfl,rfl,by simp⟩
 | r :: l,x,hM,hE,h,ho => by
   simp only [NU] at h
   split at h
   · rename_i y z hy hz'
     simp at h; subst h
     obtain ⟨v,h1,h2⟩ := OD hM hE hy (fun p hp => ho p (List.mem_append.2 (.inl hp)))
     obtain ⟨vs,k1,k2,k3⟩ := LM hM hE hz' (fun p hp => ho p (List.mem_append.2 (.inr hp)))
     refine ⟨v :: vs,?_,by simp [k2],?_⟩
     · rw [List.mapM_cons,Sem.run_bind,h1]
       simp only [Result.andThen_ok]
       rw [Sem.run_bind,k1]
       rfl
     · intro j y' hj
       match j,hj with
       | 0,hj => simp at hj; subst hj; exact h2
       | j + 1,hj => simpa using k3 j y' (by simpa using hj)
   · cases h
theorem results_run {ll : List PV} {vs : List Value} (k1 : (fn.results.toList.mapM (m := Sem) fun | .tmp t => pure (a.tmps.getD t undef) | .cell t ty => do loadVar ty (← asAddr (a.tmps.getD t undef))).run P w = .ok vs w) (k2 : vs.length = ll.length)
    (k3 : ∀ (j : Nat) (y : PV),ll[j]? = some y → RelV hz φ (vs.getD j undef) y) : ∃ v,(results fn a.tmps).run P w = .ok v w ∧ RelV hz φ v (So ll) := by
 have hm : (fn.results.mapM (m := Sem) fun | .tmp t => pure (a.tmps.getD t undef) | .cell t ty => do loadVar ty (← asAddr (a.tmps.getD t undef))).run P w = .ok vs.toArray w := by
  rw [Array.mapM_eq_mapM_toList,map_eq_pure_bind,Sem.run_bind,k1]
  rfl
 by_cases h1' : vs.length = 1
 · match vs,ll,h1',k2,k3,hm with
   | [v],[x],_,_,k3,hm =>
     refine ⟨v,?_,k3 0 x rfl⟩
     unfold results
     rw [Sem.run_bind]
     exact (congrArg (fun r : Result (Array Value) => r.andThen fun vs w' => Sem.run P (pure (if h : vs.size = 1 then vs[0] else Value.tuple vs)) w') hm).trans rfl
 · refine ⟨.tuple vs.toArray,?_,?_⟩
   · unfold results
     rw [Sem.run_bind]
     refine (congrArg (fun r : Result (Array Value) => r.andThen fun vs w' => Sem.run P (pure (if h : vs.size = 1 then vs[0] else Value.tuple vs)) w') hm).trans ?_
     simp [h1']
   · have : So ll = .tup ll := by
       cases hq : ll with
       | nil => rfl
       | cons x r => cases r with
         | nil => rw [hq] at k2; simp at k2; exact absurd k2 h1'
         | cons y r => rfl
     rw [this]
     exact .tup _ _ (by simpa using k2) (fun j y hj => by have := k3 j y hj; simpa [List.getD,Array.getD_eq_getD_getElem?] using this)
theorem Mem.shut (hM : Mem E hz φ σ w) {i g c : Nat} (hi : σ[i]? = some .mark) (hp : φ i = some (some (g,c))) : Mem E hz φ (σ.set i .dead) (w.putObj g (.deferred none)) := by
 have hg := hM.at_lt hi rfl hp
 have hne : ∀ k o,hz k = some o → k ≠ g := fun k o hk e => by subst e; rw [hg.2] at hk; cases hk
 have hget : ∀ j x,(σ.set i AObj.dead)[j]? = some x → (x = .dead) ∨ (j ≠ i ∧ σ[j]? = some x) := by
  intro j x hx
  rw [List.getElem?_set] at hx
  split at hx
  · split at hx
    · exact .inl (by simpa using hx.symm)
    · cases hx
  · rename_i e; exact .inr ⟨fun h => e h.symm,hx⟩
 exact
 { knows := fun k o hk => by rw [World.putObj_heap_other (hne k o hk)]; exact hM.knows k o hk
   objs := fun j x hx => by
    rcases hget j x hx with rfl | ⟨hne',hx⟩
    · trivial
    · refine (hM.objs j x hx).tr (Hp.le_refl _) (Phi.le_refl _) (fun k c' hk hlx _ hn => ⟨World.putObj_heap_other ?_,hn⟩)
      rintro rfl
      exact hne' (hM.inj j i x _ k c' c hx hi hlx rfl hk hp)
   inj := fun a b oa ob k c1 c2 ha hb' la lb pa pb => by
    rcases hget a oa ha with rfl | ⟨_,ha⟩
    · cases la
    rcases hget b ob hb' with rfl | ⟨_,hb'⟩
    · cases lb
    exact hM.inj a b oa ob k c1 c2 ha hb' la lb pa pb
   new := fun a x k c1 ha la pa => by
    rcases hget a x ha with rfl | ⟨_,ha⟩
    · cases la
    exact hM.new a x k c1 ha la pa
   dom := fun j hj => hM.dom j (by simpa using hj)
   caps := hM.caps
   os := hM.os,tape := hM.tape,output := hM.output
   size := by rw [World.putObj_size]; exact hM.size
   kept := fun k a b => by
    rw [World.putObj_heap_other ?_]
    · exact hM.kept k a b
    · rintro rfl
      rcases hM.new i _ k c hi rfl hp with h | h
      · omega
      · exact b h
   hle := hM.hle,hnew := hM.hnew }
def Ro : List Nat → List AObj → List AObj
 | [],σ => σ
 | i :: l,σ => Ro l (σ.set i .dead)
theorem shutM_set : ∀ (l : List AObj) (i : Nat),l[i]? = some .mark → shutM (l.set i .dead) = shutM l
 | [],i,h => by simp at h
 | o :: l,0,h => by simp at h; subst h; rfl
 | o :: l,i + 1,h => by
   have := shutM_set l i (by simpa using h)
   cases o <;> simp only [List.set_cons_succ,shutM,this]
theorem nodup_marks : ∀ (l : List AObj) (i : Nat) (acc : List Nat),(∀ j ∈ acc,j < i) → acc.Nodup → (DG i l acc).Nodup
 | [],_,_,_,h => h
 | o :: l,i,acc,hlt,h => by
   cases o with
   | mark => exact nodup_marks l (i + 1) (i :: acc) (fun j hj => by rcases List.mem_cons.1 hj with rfl | hj; exact Nat.lt_succ_self _; exact Nat.lt_succ_of_lt (hlt j hj)) (List.nodup_cons.2 ⟨fun hi => Nat.lt_irrefl _ (hlt i hi),h⟩)
   | _ => exact nodup_marks l (i + 1) acc (fun j hj => Nat.lt_succ_of_lt (hlt j hj)) h
theorem N3 : ∀ (l : List AObj) (i : Nat) (acc : List Nat) (j : Nat),l[j]? = some .mark → i + j ∈ DG i l acc
 | [],_,_,j,h => by simp at h
 | o :: l,i,acc,0,h => by
   simp at h; subst h
   have key : ∀ (l : List AObj) (i : Nat) (acc : List Nat) (x : Nat),x ∈ acc → x ∈ DG i l acc := by
    intro l
    induction l with
    | nil => intro i acc x hx; exact hx
    | cons o l ih =>
      intro i acc x hx
      cases o with
      | mark => exact ih (i + 1) (i :: acc) x (List.mem_cons_of_mem _ hx)
      | _ => exact ih (i + 1) acc x hx
   exact key l (i + 1) (i :: acc) _ (by simp)
 | o :: l,i,acc,j + 1,h => by
   have h' : l[j]? = some .mark := by simpa using h
   have := N3 l (i + 1) (match o with | .mark => i :: acc | _ => acc) j h'
   rw [show i + 1 + j = i + (j + 1) by omega] at this
   cases o <;> exact this
theorem shutM_none : ∀ (l : List AObj),(∀ j : Nat,l[j]? ≠ some AObj.mark) → shutM l = l
 | [],_ => rfl
 | o :: l,h => by
   have ih := shutM_none l (fun j => by simpa using h (j + 1))
   have h0 := h 0
   cases o <;> first | (exact absurd rfl h0) | (simp only [shutM,ih])
theorem LP {R : Ending → World → Prop} : ∀ (ms : List Nat) (σ : List AObj) (w : World),Mem E hz φ σ w → msB ms σ = true → ms.Nodup → (∀ w',Mem E hz φ (Ro ms σ) w' → ∃ v,(results fn a.tmps).run P w' = .ok v w' ∧ R (.returned v) w') →
    LeavesInM Fence.wide 0 P fn a.tmps R (G5 φ ms) .returning w
 | [],σ,w,hM,_,_,h => h w hM
 | i :: l,σ,w,hM,hb,hn,h => by
   have hi := msB_get hb i (by simp)
   obtain ⟨g,c,h1,h2,h3⟩ := hM.objs i _ hi
   refine ⟨by simp,.inl ⟨plc φ i,w.putObj g (.deferred none),rfl,?_,?_⟩⟩
   · simp only [plc,h1]; exact run_takeDeferred h2
   · refine LP l (σ.set i .dead) _ (hM.shut hi h1) (msB_of fun j hj => ?_) (List.nodup_cons.1 hn).2 h
     have hne : j ≠ i := by rintro rfl; exact (List.nodup_cons.1 hn).1 hj
     rw [List.getElem?_set_ne (fun e => hne e.symm)]
     exact msB_get hb j (by simp [hj])
theorem shutL_M : ∀ (ms : List Nat) (σ : List AObj),msB ms σ = true → ms.Nodup → (∀ j,σ[j]? = some .mark → j ∈ ms) → Ro ms σ = shutM σ
 | [],σ,_,_,h => (shutM_none σ (fun j hj => by have := h j hj; cases this)).symm
 | i :: l,σ,hb,hn,h => by
   have hi := msB_get hb i (by simp)
   show Ro l (σ.set i .dead) = _
   have h1 : msB l (σ.set i .dead) = true := msB_of fun j hj => by
    have hne : j ≠ i := by rintro rfl; exact (List.nodup_cons.1 hn).1 hj
    rw [List.getElem?_set_ne (fun e => hne e.symm)]
    exact msB_get hb j (by simp [hj])
   rw [shutL_M l (σ.set i .dead) h1 (List.nodup_cons.1 hn).2 ?_,shutM_set σ i hi]
   · intro j hj
     rw [List.getElem?_set] at hj
     split at hj
     · split at hj
       · cases hj
       · cases hj
     · rename_i hne
       rcases List.mem_cons.1 (h j hj) with rfl | h2
       · exact absurd rfl hne
       · exact h2
theorem ret_fin {st : St} {n0 : Nat} {ρ : List Nat} {res : PV} {gs : List AObj} {obl : List Prop} {R : Ending → World → Prop} (h : retF P fn n0 ρ st = some (res,σ',gs,obl)) (ho : ∀ p ∈ obl,p)
    (hR : ∀ v w' hz' φ',Mem E hz' φ' σ' w' → RelV hz' φ' v res → (∀ k,k < n0 → ∀ x u,gs[k]? = some (.ghost u x) → ∀ y,x.ren (ixOf ρ) = some y → RelV hz' φ' u y) → R (.returned v) w') :
    ∀ a w,Sim E n st a w → ∀ e,e = .ret ∨ e = .normal → FinP P fn R e a w := by
 intro a w hs e he
 obtain ⟨h1,hz,φ,hM,hdf,hE⟩ := hs
 unfold retF at h
 split at h
 case h_2 => cases h
 rename_i l ob hl
 split at h
 case isFalse => cases h
 rename_i hnd
 split at h
 case h_2 => cases h
 rename_i l' σ1 hl' hσ'
 simp only [Option.some.injEq,Prod.mk.injEq] at h; obtain ⟨rfl,rfl,rfl,rfl⟩ := h
 have main : LeavesInM Fence.wide 0 P fn a.tmps R a.defers .returning w := by
  rw [hdf]
  refine LP (marksOf st.σ) st.σ w hM (marksOf_B _) (nodup_marks _ _ _ (by simp) (by simp)) ?_
  intro w' hM'
  rw [shutL_M _ _ (marksOf_B _) (nodup_marks _ _ _ (by simp) (by simp)) (fun j hj => by have := N3 st.σ 0 [] j hj; rwa [Nat.zero_add] at this)] at hM'
  obtain ⟨vs,k1,k2,k3⟩ := LM (P := P) hM' hE hl ho
  obtain ⟨r1,r2⟩ := H1 hl'
  obtain ⟨v,hv,hr⟩ := results_run (hz := hz) (φ := projPhi φ ρ) (ll := l') k1 (by rw [k2,r1]) (fun j y hj => by
   obtain ⟨x,hx,hxr⟩ := r2 j y hj
   exact (k3 j x hx).ren proj_phi y hxr)
  refine ⟨v,hv,hR v w' hz _ (hM'.proj hnd hσ') hr ?_⟩
  intro k hk x u hg y hy
  rw [List.getElem?_take,if_pos hk,List.getElem?_drop] at hg
  have := hM.objs _ _ hg
  exact RelV.ren proj_phi this y hy
 rcases he with rfl | rfl
 · exact main
 · exact main
theorem argEnv_get : ∀ {l : List PV} {k t : Nat} {x : PV},(LT k l).lookup t = some x → k ≤ t ∧ l[t - k]? = some x
 | [],k,t,x,h => by simp [LT] at h
 | y :: l,k,t,x,h => by
   simp only [LT,List.lookup] at h
   split at h
   · rename_i e
     have : t = k := by simpa using e
     subst this
     simp at h; subst h
     simp
   · rename_i e
     obtain ⟨h1,h2⟩ := argEnv_get h
     refine ⟨by omega,?_⟩
     have : t - k = (t - (k + 1)) + 1 := by omega
     rw [this]
     simpa using h2
theorem OL (gv : Nat → Value) : ∀ (l : List AObj) (i k : Nat) (g : AObj),(ghs gv i l)[k]? = some g → ∃ o,l[k]? = some o ∧ g = .ghost (gv (i + k)) (gPV o (i + k))
 | [],_,k,g,h => by simp [ghs] at h
 | o :: l,i,0,g,h => by simp [ghs] at h; exact ⟨o,rfl,h.symm⟩
 | o :: l,i,k + 1,g,h => by
   obtain ⟨x,h1,h2⟩ := OL gv l (i + 1) k g (by simpa [ghs] using h)
   exact ⟨x,by simpa using h1,by rw [h2,show i + 1 + k = i + (k + 1) by omega]⟩
theorem Kq {gv : Nat → Value} {e : List Nat} : ∀ (l gs : List AObj) (i : Nat),Ng e i l gs = M6 gv e i l → gs.length = l.length → ∀ (k : Nat) (o : AObj),l[k]? = some o → KP e o (i + k) = false → gs[k]? = some (.ghost (gv (i + k)) (gPV o (i + k)))
 | [],gs,i,_,_,k,o,h,_ => by simp at h
 | o :: l,[],i,_,hl,k,x,h,_ => by simp at hl
 | o :: l,g :: r,i,hk,hl,k,x,h,hx => by
   simp only [Ng,M6] at hk
   cases hq : KP e o i with
   | true =>
     rw [hq] at hk
     simp only [if_true] at hk
     match k,h with
     | 0,h => simp at h; subst h; rw [Nat.add_zero,hq] at hx; cases hx
     | k + 1,h =>
       have := Kq l r (i + 1) hk (by simpa using hl) k x (by simpa using h) (by rw [show i + 1 + k = i + (k + 1) by omega]; exact hx)
       rw [show i + 1 + k = i + (k + 1) by omega] at this
       simpa using this
   | false =>
     rw [hq] at hk
     simp only [Bool.false_eq_true,if_false,List.cons.injEq] at hk
     match k,h with
     | 0,h => simp at h; subst h; simp [hk.1]
     | k + 1,h =>
       have := Kq l r (i + 1) hk.2 (by simpa using hl) k x (by simpa using h) (by rw [show i + 1 + k = i + (k + 1) by omega]; exact hx)
       rw [show i + 1 + k = i + (k + 1) by omega] at this
       simpa using this
theorem Jt {e : List Nat} : ∀ (l : List AObj) (i : Nat),MK e i l = true → ∀ (k : Nat) (o : AObj),l[k]? = some o → o.live = true ∧ (if Lh o then e.contains (2 * (i + k)) else e.contains (2 * (i + k) + 1)) = true
 | [],i,_,k,o,h => by simp at h
 | x :: l,i,hh,0,o,h => by simp only [MK,Bool.and_eq_true] at hh; simp at h; subst h; exact ⟨hh.1.1,hh.1.2⟩
 | x :: l,i,hh,k + 1,o,h => by
   simp only [MK,Bool.and_eq_true] at hh
   have := Jt l (i + 1) hh.2 k o (by simpa using h)
   rw [show i + 1 + k = i + (k + 1) by omega] at this
   exact this
theorem Qh {gv : Nat → Value} {e : List Nat} (hM : Mem E hz φ σ w) (hle : Hp.le hz hz') (hb : MK e 0 σ = true)
    (hgv : ∀ (i : Nat) (o : AObj),σ[i]? = some o → (Lh o = false → ∀ g c,φ i = some (some (g,c)) → gv i = .pointer (some ⟨g,0,none⟩)) ∧ (Lh o = true → (∀ g c,φ i = some (some (g,c)) → gv i = .slice (some ⟨g,0,none⟩) 0 c) ∧ (φ i = some none → gv i = .slice none 0 0)))
    (hg : ∀ (i : Nat) (o : AObj),σ[i]? = some o → KP e o i = false → RelV hz' φ' (gv i) (gPV o i)) : ∀ u x,RelV hz φ u x → RelV hz' φ' u (effO e x) := by
 have hlt : ∀ i p,φ i = some p → ∃ o,σ[i]? = some o := by
  intro i p hp
  rcases Nat.lt_or_ge i σ.length with h | h
  · exact ⟨_,List.getElem?_eq_getElem h⟩
  · rw [hM.dom i h] at hp; cases hp
 have ptrk : ∀ i g c,φ i = some (some (g,c)) → ¬ e.contains (2 * i) = true → ∃ c',φ' i = some (some (g,c')) := by
  intro i g c hp hne
  obtain ⟨o,ho⟩ := hlt i _ hp
  have hb1 := Jt σ 0 hb i o ho
  rw [Nat.zero_add] at hb1
  cases hr : Lh o with
  | true => rw [hr] at hb1; simp only [if_true] at hb1; exact absurd hb1.2 hne
  | false =>
    have hk : KP e o i = false := by
     unfold KP; rw [hr]; simp only [Bool.false_eq_true,if_false]
     cases hq : e.contains (2 * i) with
     | false => rfl
     | true => exact absurd hq hne
    have h1 := hg i o ho hk
    rw [(hgv i o ho).1 hr g c hp] at h1
    have : gPV o i = .ptr i 0 := by cases o <;> first | rfl | cases hr
    rw [this] at h1
    cases h1 with
    | ptr _ _ _ c' h => exact ⟨c',h⟩
 have rowk : ∀ i,(∃ p,φ i = some p) → ¬ e.contains (2 * i + 1) = true → ∃ o,σ[i]? = some o ∧ Lh o = true ∧ RelV hz' φ' (gv i) (.row i 0) := by
  rintro i ⟨p,hp⟩ hne
  obtain ⟨o,ho⟩ := hlt i _ hp
  have hb1 := Jt σ 0 hb i o ho
  rw [Nat.zero_add] at hb1
  cases hr : Lh o with
  | false => rw [hr] at hb1; simp only [Bool.false_eq_true,if_false] at hb1; exact absurd hb1.2 hne
  | true =>
    have hk : KP e o i = false := by
     unfold KP; rw [hr]; simp only [if_true]
     cases hq : e.contains (2 * i + 1) with
     | false => rfl
     | true => exact absurd hq hne
    have h1 := hg i o ho hk
    have : gPV o i = .row i 0 := by cases o <;> first | rfl | cases hr
    rw [this] at h1
    exact ⟨o,ho,hr,h1⟩
 intro u x hx
 induction hx with
 | d h => exact .d (h.mono hle)
 | ptr i off g c h =>
   simp only [effO]; split
   · exact .undef _
   · rename_i hne; obtain ⟨c',h'⟩ := ptrk i g c h hne; exact .ptr i off g c' h'
 | row i n g cap h hn hm =>
   simp only [effO]; split
   · exact .undef _
   · rename_i hne
     obtain ⟨o,ho,hr,h1⟩ := rowk i ⟨_,h⟩ hne
     rw [((hgv i o ho).2 hr).1 g cap h] at h1
     cases h1 with
     | row _ _ _ _ h' _ _ => exact .row i n g cap h' hn hm
     | rowNil _ _ h' =>
       have : n = 0 := by omega
       subst this
       exact .rowNil i _ h'
 | rowNil i a h =>
   simp only [effO]; split
   · exact .undef _
   · rename_i hne
     obtain ⟨o,ho,hr,h1⟩ := rowk i ⟨_,h⟩ hne
     rw [((hgv i o ho).2 hr).2 h] at h1
     cases h1 with
     | rowNil _ _ h' => exact .rowNil i a h'
 | view i o n g c cap h hn hm =>
   simp only [effO]; split
   · exact .undef _
   · rename_i hne; obtain ⟨c',h'⟩ := ptrk i g c h hne; exact .view i o n g c' cap h' hn hm
 | viewNil i o a h =>
   simp only [effO]; split
   · exact .undef _
   · rename_i hne
     exfalso
     obtain ⟨ob,ho⟩ := hlt i _ h
     have hb1 := Jt σ 0 hb i ob ho
     rw [Nat.zero_add] at hb1
     cases hr : Lh ob with
     | true => rw [hr] at hb1; simp only [if_true] at hb1; exact hne hb1.2
     | false =>
       have := hM.objs i ob ho
       cases ob with
       | row => cases hr
       | dead => cases hb1.1
       | ghost => cases hb1.1
       | blk t cs => obtain ⟨g,c,_,h1,_⟩ := this; rw [h] at h1; cases h1
       | dblk t cs => obtain ⟨g,c,_,h1,_⟩ := this; rw [h] at h1; cases h1
       | mark => obtain ⟨g,c,h1,_⟩ := this; rw [h] at h1; cases h1
       | loop => obtain ⟨g,c,_,h1,_⟩ := this; rw [h] at h1; cases h1
       | mp => obtain ⟨g,c,_,_,h1,_⟩ := this; rw [h] at h1; cases h1
       | dmp => obtain ⟨g,c,_,_,h1,_⟩ := this; rw [h] at h1; cases h1
 | yld i l c h =>
   simp only [effO]; split
   · exact .undef _
   · rename_i hne; obtain ⟨c',h'⟩ := ptrk i l c h hne; exact .yld i l c' h'
 | mapv i g c h =>
   simp only [effO]; split
   · exact .undef _
   · rename_i hne; obtain ⟨c',h'⟩ := ptrk i g c h hne; exact .mapv i g c' h'
 | pp g off cs arr e fr f hg hx hr => exact .pp g off cs arr e fr f (hle _ _ hg) hx (fun j x hj => (hr j x hj).mono hle)
 | fn f a b c d h1 h2 _ _ i1 i2 =>
   refine .fn f a b _ _ (by rw [Ds]; exact h1) (by rw [Ds]; exact h2) ?_ ?_
   · intro j y hy; obtain ⟨x,hx,rfl⟩ := FB hy; exact i1 j x hx
   · intro j y hy; obtain ⟨x,hx,rfl⟩ := FB hy; exact i2 j x hx
 | agg cs cs' h _ ih => exact .agg cs _ (by rw [Ds]; exact h) (fun j y hy => by obtain ⟨x,hx,rfl⟩ := FB hy; exact ih j x hx)
 | dagg cs cs' h r => exact .dagg cs cs' h (fun j x hj => (r j x hj).mono hle)
 | tup cs cs' h _ ih => exact .tup cs _ (by rw [Ds]; exact h) (fun j y hy => by obtain ⟨x,hx,rfl⟩ := FB hy; exact ih j x hx)
 | undef v => exact .undef v
def RetR (gv : Nat → Value) (e : List Nat) (σ : List AObj) (res : PV) : Value → World → Hp → Phi → Prop := fun v _ hz' φ' => RelV hz' φ' v res ∧ ∀ (i : Nat) (o : AObj),σ[i]? = some o → KP e o i = false → RelV hz' φ' (gv i) (gPV o i)
def N9 : Nat → List Nat → Bool
 | 0,_ => true
 | n + 1,ρ => (match ρ[n]? with | some i => Nat.beq i n | none => false) && N9 n ρ
theorem ident_get : ∀ {n : Nat} {ρ : List Nat},N9 n ρ = true → ∀ i,i < n → ρ[i]? = some i
 | 0,_,_,i,h => by omega
 | n + 1,ρ,hh,i,h => by
   simp only [N9,Bool.and_eq_true] at hh
   by_cases e : i = n
   · subst e
     have := hh.1
     split at this
     · rename_i j hj; rw [hj,Nat.eq_of_beq_eq_true this]
     · cases this
   · exact ident_get hh.2 i (by omega)
theorem ret_ok {st : St} {ρ : List Nat} {res : PV} {gs : List AObj} {obl : List Prop} {gv : Nat → Value} {e : List Nat} {R : Ending → World → Prop} (hR : ∀ v w' hz' φ',Mem E hz' φ' σ' w' → RetR gv e σ res v w' hz' φ' → R (.returned v) w')
    (h : retF P fn σ.length ρ st = some (res,σ',gs,obl)) (ho : ∀ p ∈ obl,p) (hi : (N9 σ.length ρ && nodupB ρ) = true)
    (hk : Ng e 0 σ gs = M6 gv e 0 σ) (hl : gs.length = σ.length) : ∀ a w,Sim E n st a w → ∀ ex,ex = .ret ∨ ex = .normal → FinP P fn R ex a w := by
 simp only [Bool.and_eq_true] at hi
 refine ret_fin h ho fun v w' hz' φ' hm hr hgs => hR v w' hz' φ' hm ⟨hr,fun i o hi' hk' => ?_⟩
 have hil := AL hi'
 have h1 := Kq σ gs 0 hk hl i o hi' (by rw [Nat.zero_add]; exact hk')
 rw [Nat.zero_add] at h1
 refine hgs i hil _ _ h1 _ ?_
 have h2 := J6 hi.2 (ident_get hi.1 i hil)
 cases o <;> simp only [gPV,PV.ren,h2]
def gvOf (σ : List AObj) (φ : Phi) (i : Nat) : Value :=
 match σ[i]?,φ i with
 | some o,some (some (g,c)) => if Lh o then .slice (some ⟨g,0,none⟩) 0 c else .pointer (some ⟨g,0,none⟩)
 | some _,some none => .slice none 0 0
 | _,_ => undef
theorem QS {i : Nat} {o : AObj} (hM : Mem E hz φ σ w) (ho : σ[i]? = some o) (hl : o.live = true) :
    RelV hz φ (gvOf σ φ i) (gPV o i) ∧ (Lh o = false → ∀ g c,φ i = some (some (g,c)) → gvOf σ φ i = .pointer (some ⟨g,0,none⟩)) ∧ (Lh o = true → (∀ g c,φ i = some (some (g,c)) → gvOf σ φ i = .slice (some ⟨g,0,none⟩) 0 c) ∧ (φ i = some none → gvOf σ φ i = .slice none 0 0)) := by
 have e1 : ∀ g c,φ i = some (some (g,c)) → gvOf σ φ i = if Lh o then .slice (some ⟨g,0,none⟩) 0 c else .pointer (some ⟨g,0,none⟩) := fun g c h => by simp only [gvOf,ho,h]
 have e2 : φ i = some none → gvOf σ φ i = .slice none 0 0 := fun h => by simp only [gvOf,ho,h]
 cases hr : Lh o with
 | true =>
   have hgp : gPV o i = .row i 0 := by cases o <;> first | rfl | cases hr
   refine ⟨?_,fun h => (by cases h),fun _ => ⟨fun g c h => by rw [e1 g c h,hr]; rfl,e2⟩⟩
   rw [hgp]
   rcases (hM.objs i o ho).place hl with hp | ⟨g,c,O,hp,_⟩
   · rw [e2 hp]; exact .rowNil i _ hp
   · rw [e1 g c hp,hr]; exact .row i 0 g c hp (Nat.zero_le _) (hM.caps _ _ _ hp)
 | false =>
   have hgp : gPV o i = .ptr i 0 := by cases o <;> first | rfl | cases hr
   refine ⟨?_,fun _ g c h => by rw [e1 g c h,hr]; rfl,fun h => (by cases h)⟩
   have hp : ∃ g c,φ i = some (some (g,c)) := by
    have := hM.objs i o ho
    cases o with
    | row => cases hr
    | dead => cases hl
    | ghost => cases hl
    | blk t cs => obtain ⟨g,c,_,h1,_⟩ := this; exact ⟨g,c,h1⟩
    | dblk t cs => obtain ⟨g,c,_,h1,_⟩ := this; exact ⟨g,c,h1⟩
    | mark => obtain ⟨g,c,h1,_⟩ := this; exact ⟨g,c,h1⟩
    | loop => obtain ⟨g,c,_,h1,_⟩ := this; exact ⟨g,c,h1⟩
    | mp => obtain ⟨g,c,_,_,h1,_⟩ := this; exact ⟨g,c,h1⟩
    | dmp => obtain ⟨g,c,_,_,h1,_⟩ := this; exact ⟨g,c,h1⟩
   obtain ⟨g,c,hp⟩ := hp
   rw [e1 g c hp,hr,hgp]; exact .ptr i 0 g c hp
theorem Mem.ghosts {e : List Nat} (hM : Mem E hz φ σ w) (hbase : MK e 0 σ = true) : Mem E hz φ (σ ++ ghs (gvOf σ φ) 0 σ) w := by
 have hget : ∀ (i : Nat) (o : AObj),(σ ++ ghs (gvOf σ φ) 0 σ)[i]? = some o → o.live = true → σ[i]? = some o := by
  intro i o hi hl
  rcases Nat.lt_or_ge i σ.length with hlt | hge
  · rw [List.getElem?_append_left hlt] at hi; exact hi
  · rw [List.getElem?_append_right hge] at hi
    obtain ⟨x,_,rfl⟩ := OL _ σ 0 _ _ hi
    cases hl
 exact
 { knows := hM.knows
   objs := fun i o hi => by
    rcases Nat.lt_or_ge i σ.length with hlt | hge
    · rw [List.getElem?_append_left hlt] at hi; exact hM.objs i o hi
    · rw [List.getElem?_append_right hge] at hi
      obtain ⟨x,hx,rfl⟩ := OL _ σ 0 _ _ hi
      rw [Nat.zero_add]
      have := (QS hM hx (Jt σ 0 hbase _ x hx).1).1
      exact this
   inj := fun i j oi oj g c c' hi hj li lj pi pj => hM.inj i j oi oj g c c' (hget i oi hi li) (hget j oj hj lj) li lj pi pj
   new := fun i o g c hi li pi => hM.new i o g c (hget i o hi li) li pi
   dom := fun i hi => hM.dom i (by simp at hi; omega)
   caps := hM.caps
   os := hM.os,tape := hM.tape,output := hM.output,size := hM.size,kept := hM.kept,hle := hM.hle,hnew := hM.hnew }
theorem N2 {gv : Nat → Value} (hmk : eqN (marksOf (σ ++ ghs (fun _ => undef) 0 σ)) [] = true) : marksOf (σ ++ ghs gv 0 σ) = [] := by
 have key : ∀ (gv gv' : Nat → Value) (l : List AObj) (i k : Nat) (acc : List Nat),DG k (ghs gv i l) acc = DG k (ghs gv' i l) acc := by
  intro gv gv' l
  induction l with
  | nil => intro i k acc; rfl
  | cons o l ih => intro i k acc; exact ih (i + 1) (k + 1) acc
 have app : ∀ (l m m' : List AObj) (k : Nat) (acc : List Nat),(∀ k acc,DG k m acc = DG k m' acc) → DG k (l ++ m) acc = DG k (l ++ m') acc := by
  intro l m m'
  induction l with
  | nil => intro k acc h; exact h k acc
  | cons o l ih =>
    intro k acc h
    cases o with
    | mark => exact ih (k + 1) (k :: acc) h
    | _ => exact ih (k + 1) acc h
 have := Mu hmk
 unfold marksOf at this ⊢
 rw [app σ (ghs gv 0 σ) (ghs (fun _ => undef) 0 σ) 0 [] (fun k acc => key _ _ σ 0 k acc)]
 exact this
theorem Qw {own : Nat → Prop} {res : PV} {e : List Nat} {v : Value} {w0 : World} (hM : Mem ⟨w0,hz,own⟩ hz φ σ w0) (hbase : MK e 0 σ = true) (h : Mem ⟨w0,hz,own⟩ hz' φ' σ' w') (hr : RetR (gvOf σ φ) e σ res v w' hz' φ') : Post w0 hz own φ res σ' e (.returned v) w' :=
 ⟨v,hz',φ',rfl,hr.1,h,Qh hM h.hle hbase (fun i o ho => (QS hM ho (by have := Jt σ 0 hbase i o ho; exact this.1)).2) hr.2⟩
theorem FnOK.intro {f : FuncId} {fn : Func} {c : Code} {args : List PV} {res : PV} {e : List Nat} (hf : P.funcs[f]? = some fn) (hb : fn.body = some c) (hn : Nat.ble args.length fn.ntmps = true) (hbase : (MK e 0 σ && eqN (marksOf (σ ++ ghs (fun _ => undef) 0 σ)) []) = true)
    (h : ∀ E gv (R : Ending → World → Prop),(∀ v w' hz' φ',Mem E hz' φ' σ' w' → RetR gv e σ res v w' hz' φ' → R (.returned v) w') → At P none E fn.ntmps c (FinP P fn R) ⟨LT 0 args,σ ++ ghs gv 0 σ⟩) : FnOK P f args σ res σ' e := by
 intro w hz own φ vals hM hv
 simp only [Bool.and_eq_true] at hbase
 have hn := Nat.le_of_ble_eq_true hn
 refine callsIn_wide.1 (callsIn_of_wp_marks (F := Fence.wide) (n := 0) hf hb trivial ?_)
 refine h ⟨w,hz,own⟩ (gvOf σ φ) _ (fun v w' hz' φ' h1 h2 => Qw hM hbase.1 h1 h2) _ w ?_
 refine ⟨by simp [hv.1]; omega,hz,φ,hM.ghosts hbase.1,?_,?_⟩
 · rw [N2 hbase.2]; rfl
 · intro t x hx
   obtain ⟨_,hx'⟩ := argEnv_get hx
   simp at hx'
   have hl := AL hx'
   have := hv.2 t x hx'
   have hvs : t < vals.size := by rw [hv.1]; exact hl
   refine ⟨vals[t],?_,?_⟩
   · simp [Array.getElem?_append_left hvs,hvs]
   · simpa [Array.getD_eq_getD_getElem?,hvs] using this
end
end Go.Ab
