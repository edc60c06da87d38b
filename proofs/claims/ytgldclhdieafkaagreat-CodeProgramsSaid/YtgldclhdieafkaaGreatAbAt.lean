/- The rules. -/
import Derived.Test.YtgldclhdieafkaaGreatAbSound
import Derived.Test.YtgldclhdieafkaaGreatAbRen
import Derived.LoopNIn
import Derived.OrdersIn
namespace Go.Ab
open Go.RowKit
def iter {S R : Type} (step : S → Option (S ⊕ R)) : Nat → S → Option R
 | 0,_ => none
 | n + 1,s => match step s with
   | some (.inl s') => iter step n s'
   | some (.inr r) => some r
   | none => none
open Classical in
noncomputable def Loop {S R : Type} (step : S → Option (S ⊕ R)) (s : S) : Option R :=
 if h : ∃ r n,iter step n s = some r then some h.choose else none
theorem Ke {S R : Type} {step : S → Option (S ⊕ R)} {s : S} {r : R} (h : Loop step s = some r) : ∃ n,iter step n s = some r := by
 unfold Loop at h
 split at h
 · rename_i hx
   simp at h; subst h
   exact hx.choose_spec
 · cases h
theorem iter_det {S R : Type} {step : S → Option (S ⊕ R)} : ∀ {n m : Nat} {s : S} {r r' : R},iter step n s = some r → iter step m s = some r' → r = r'
 | 0,_,_,_,_,h,_ => by simp [iter] at h
 | _ + 1,0,_,_,_,_,h => by simp [iter] at h
 | n + 1,m + 1,s,r,r',h,h' => by
   simp only [iter] at h h'
   split at h
   · rename_i s' hs
     rw [hs] at h'
     exact iter_det h h'
   · rename_i q hs
     rw [hs] at h'
     simp at h h'
     rw [← h,← h']
   · cases h
theorem Loop_of {S R : Type} {step : S → Option (S ⊕ R)} {s : S} {r : R} (n : Nat) (h : iter step n s = some r) : Loop step s = some r := by
 unfold Loop
 have hx : ∃ r n,iter step n s = some r := ⟨r,n,h⟩
 rw [dif_pos hx]
 obtain ⟨m,hm⟩ := hx.choose_spec
 rw [iter_det hm h]
theorem Loop_inl {S R : Type} {step : S → Option (S ⊕ R)} {s s' : S} (h : step s = some (.inl s')) : Loop step s = Loop step s' := by
 cases hr : Loop step s' with
 | some r =>
   obtain ⟨n,hn⟩ := Ke hr
   exact Loop_of (n + 1) (by simp [iter,h,hn])
 | none =>
   cases hq : Loop step s with
   | none => rfl
   | some r =>
     obtain ⟨n,hn⟩ := Ke hq
     cases n with
     | zero => simp [iter] at hn
     | succ n =>
       simp only [iter,h] at hn
       rw [Loop_of n hn] at hr
       cases hr
theorem Loop_inr {S R : Type} {step : S → Option (S ⊕ R)} {s : S} {r : R} (h : step s = some (.inr r)) : Loop step s = some r := Loop_of 1 (by simp [iter,h])
def Nh : List Nat → Env → Env
 | [],_ => []
 | k :: r,env => match env.lookup k with
   | some x => (k,x) :: Nh r env
   | none => Nh r env
theorem H2 : ∀ (ks : List Nat) (env : Env) {s : Nat} {x : PV},(Nh ks env).lookup s = some x → env.lookup s = some x
 | [],env,s,x,h => by simp [Nh] at h
 | k :: r,env,s,x,h => by
   simp only [Nh] at h
   split at h
   · rename_i y hy
     simp only [List.lookup] at h
     split at h
     · rename_i e
       have : s = k := by simpa using e
       subst this
       rw [hy]; exact h
     · exact H2 r env h
   · exact H2 r env h
mutual
def PV.inB (m : Nat) : PV → Bool
 | .d _ => true
 | .ptr i _ => i < m
 | .row i _ => i < m
 | .view i _ _ => i < m
 | .yld i => i < m
 | .mapv i => i < m
 | .pp _ => true
 | .fn _ a b => PV.inBs m a && PV.inBs m b
 | .agg cs => PV.inBs m cs
 | .dagg _ => true
 | .tup cs => PV.inBs m cs
 | .undef => true
def PV.inBs (m : Nat) : List PV → Bool
 | [] => true
 | x :: l => PV.inB m x && PV.inBs m l
end
def AObj.inB (m : Nat) : AObj → Bool
 | .blk _ cs => PV.inBs m cs
 | .loop _ _ _ _ _ vs _ _ => PV.inBs m vs
 | .mp _ vs => PV.inBs m vs
 | .ghost _ x => x.inB m
 | _ => true
def envB (m : Nat) : Env → Bool
 | [] => true
 | p :: l => p.2.inB m && envB m l
def Nb (m : Nat) : List AObj → Bool
 | [] => true
 | o :: l => o.inB m && Nb m l
theorem GF {m : Nat} : ∀ {l : List PV} {j : Nat} {x : PV},PV.inBs m l = true → l[j]? = some x → x.inB m = true
 | [],j,x,_,h => by simp at h
 | y :: l,0,x,hb,h => by simp [PV.inBs] at hb h; subst h; exact hb.1
 | y :: l,j + 1,x,hb,h => by simp [PV.inBs] at hb h; exact GF hb.2 h
theorem Nm {m : Nat} : ∀ {env : Env} {t : Nat} {x : PV},envB m env = true → env.lookup t = some x → x.inB m = true
 | [],t,x,_,h => by simp at h
 | (k,y) :: l,t,x,hb,h => by
   simp [envB] at hb
   simp only [List.lookup] at h
   split at h
   · simp at h; subst h; exact hb.1
   · exact Nm hb.2 h
theorem Mc {m : Nat} : ∀ {l : List AObj} {j : Nat} {o : AObj},Nb m l = true → l[j]? = some o → o.inB m = true
 | [],j,x,_,h => by simp at h
 | y :: l,0,x,hb,h => by simp [Nb] at hb h; subst h; exact hb.1
 | y :: l,j + 1,x,hb,h => by simp [Nb] at hb h; exact Mc hb.2 h
theorem RelV.cut {hz : Hp} {φ : Phi} {m : Nat} {v : Value} {x : PV} (h : RelV hz φ v x) (hb : x.inB m = true) : RelV hz (fun i => if i < m then φ i else none) v x := by
 induction h with
 | d h => exact .d h
 | ptr i off g c h => simp [PV.inB] at hb; exact .ptr i off g c (by simp [hb,h])
 | row i n g cap h hn hm => simp [PV.inB] at hb; exact .row i n g cap (by simp [hb,h]) hn hm
 | rowNil i a h => simp [PV.inB] at hb; exact .rowNil i a (by simp [hb,h])
 | view i o n g c cap h hn hm => simp [PV.inB] at hb; exact .view i o n g c cap (by simp [hb,h]) hn hm
 | viewNil i o a h => simp [PV.inB] at hb; exact .viewNil i o a (by simp [hb,h])
 | yld i l c h => simp [PV.inB] at hb; exact .yld i l c (by simp [hb,h])
 | mapv i g c h => simp [PV.inB] at hb; exact .mapv i g c (by simp [hb,h])
 | pp g off cs arr e fr f hg hx hr => exact .pp g off cs arr e fr f hg hx hr
 | fn f a b c d h1 h2 _ _ i1 i2 =>
   simp [PV.inB] at hb
   exact .fn f a b c d h1 h2 (fun j x hj => i1 j x hj (GF hb.1 hj)) (fun j x hj => i2 j x hj (GF hb.2 hj))
 | agg cs cs' h _ ih => exact .agg cs cs' h (fun j x hj => ih j x hj (GF (by simpa [PV.inB] using hb) hj))
 | dagg cs cs' h r => exact .dagg cs cs' h r
 | tup cs cs' h _ ih => exact .tup cs cs' h (fun j x hj => ih j x hj (GF (by simpa [PV.inB] using hb) hj))
 | undef v => exact .undef v
theorem JC {σ : List AObj} : ∀ (l : List AObj) (i : Nat) (acc : List Nat),σ.drop i = l → msB acc σ = true → msB (DG i l acc) σ = true
 | [],i,acc,_,h => h
 | o :: l,i,acc,hd,h => by
   have ho : σ[i]? = some o := by
    have := congrArg (fun l => l[0]?) hd
    simpa using this
   have hd' : σ.drop (i + 1) = l := by
    have := congrArg List.tail hd
    simpa using this
   cases o with
   | mark => exact JC l (i + 1) (i :: acc) hd' (by simp only [msB,ho,h]; rfl)
   | _ => exact JC l (i + 1) acc hd' h
theorem marksOf_B (σ : List AObj) : msB (marksOf σ) σ = true := JC σ 0 [] rfl rfl
def NW (f : Nat → Option Nat) : Env → Option Env
 | [] => some []
 | (t,x) :: l => match x.ren f,NW f l with | some y,some r => some ((t,y) :: r) | _,_ => none
theorem MO {f : Nat → Option Nat} : ∀ {env env' : Env} {t : Nat} {y : PV},NW f env = some env' → env'.lookup t = some y → ∃ x,env.lookup t = some x ∧ x.ren f = some y
 | [],env',t,y,h,hl => by simp [NW] at h; subst h; simp at hl
 | (k,x) :: l,env',t,y,h,hl => by
   simp only [NW] at h
   split at h
   · rename_i z r hz hr
     simp at h; subst h
     simp only [List.lookup] at hl ⊢
     split at hl
     · simp at hl; subst hl; exact ⟨x,rfl,hz⟩
     · exact MO hr hl
   · cases h
def ixs (ρ : List Nat) : List Nat → Option (List Nat)
 | [] => some []
 | i :: l => match ixOf ρ i,ixs ρ l with | some k,some r => some (k :: r) | _,_ => none
def eqN : List Nat → List Nat → Bool
 | [],[] => true
 | a :: l,b :: m => Nat.beq a b && eqN l m
 | _,_ => false
theorem Mu : ∀ {l m : List Nat},eqN l m = true → l = m
 | [],[],_ => rfl
 | [],_ :: _,h => by cases h
 | _ :: _,[],h => by cases h
 | a :: l,b :: m,h => by
   simp only [eqN,Bool.and_eq_true] at h
   rw [Nat.eq_of_beq_eq_true h.1,Mu h.2]
theorem N8 {φ : Phi} {ρ : List Nat} : ∀ {l m : List Nat},ixs ρ l = some m → G5 φ l = G5 (projPhi φ ρ) m
 | [],m,h => by simp [ixs] at h; subst h; rfl
 | i :: l,m,h => by
   simp only [ixs] at h
   split at h
   · rename_i k r hk hr
     simp at h; subst h
     have := N8 (φ := φ) hr
     unfold G5 at *
     simp only [List.map_cons,this]
     congr 2
     simp only [plc,projPhi,ixOf_get hk]
   · cases h
def narR (ks ρ : List Nat) (st : St) : Option St :=
 if nodupB ρ then
  match NW (ixOf ρ) (Nh ks st.env),Qv ρ st.σ,ixs ρ (marksOf st.σ) with
  | some env,some σ,some ms => if eqN ms (marksOf σ) then some ⟨env,σ⟩ else none
  | _,_,_ => none
 else none
def finR (ks ρ ms : List Nat) (r : Option (Env × List AObj × List Prop)) : Option (St × List Prop) :=
 match r with
 | some (env,σ,obl) => if eqN (marksOf σ) ms then match narR ks ρ ⟨env,σ⟩ with | some st => some (st,obl) | none => none else none
 | none => none
section
variable {P : Program} {ro : Option Nat} {E : Entry} {n : Nat} {Q : Exit → Act → World → Prop} {st st' : St}
theorem Sim.M {a : Act} {w : World} (h : Sim E n st a w) : SimM E n (marksOf st.σ) st a w := by
 obtain ⟨h1,hz,φ,hM,hd,hE⟩ := h
 exact ⟨h1,hz,φ,hM,hd,marksOf_B _,hE⟩
theorem SimM.S {a : Act} {w : World} {ms : List Nat} (h : SimM E n ms st a w) (he : marksOf st.σ = ms) : Sim E n st a w := by
 obtain ⟨h1,hz,φ,hM,hd,_,hE⟩ := h
 exact ⟨h1,hz,φ,hM,by rw [he]; exact hd,hE⟩
theorem Sim.keep {a : Act} {w : World} (h : Sim E n st a w) (ks : List Nat) : Sim E n ⟨Nh ks st.env,st.σ⟩ a w := by
 obtain ⟨h1,hz,φ,hM,hd,hE⟩ := h
 exact ⟨h1,hz,φ,hM,hd,fun t x hx => hE t x (H2 ks _ hx)⟩
theorem Sim.nar {a : Act} {w : World} (h : Sim E n st a w) {ks ρ : List Nat} (hn : narR ks ρ st = some st') : Sim E n st' a w := by
 unfold narR at hn
 split at hn
 · rename_i hd
   split at hn
   · rename_i env σ ms he hσ hms
     split at hn
     · rename_i hme
       simp at hn; subst hn
       obtain ⟨h1,hz,φ,hM,hdf,hE⟩ := h
       refine ⟨h1,hz,projPhi φ ρ,hM.proj hd hσ,?_,?_⟩
       · rw [hdf,N8 hms,Mu hme]
       · intro t y hy
         obtain ⟨x,hx,hr⟩ := MO he hy
         obtain ⟨v,hv,hv2⟩ := hE t x (H2 ks _ hx)
         exact ⟨v,hv,hv2.ren proj_phi y hr⟩
     · cases hn
   · cases hn
 · cases hn
theorem At.keep (ks : List Nat) {c : Code} (h : At P ro E n c Q ⟨Nh ks st.env,st.σ⟩) : At P ro E n c Q st := fun a w hs => h a w (hs.keep ks)
theorem At.nar (ks ρ : List Nat) {c : Code} (h : narR ks ρ st = some st') (h2 : At P ro E n c Q st') : At P ro E n c Q st := fun a w hs => h2 a w (hs.nar h)
theorem MY {ks ρ ms : List Nat} {r : Option (Env × List AObj × List Prop)} {obl : List Prop} (h : finR ks ρ ms r = some (st',obl)) :
    ∃ env σ,r = some (env,σ,obl) ∧ ∀ a w,SimM E n ms ⟨env,σ⟩ a w → Sim E n st' a w := by
 unfold finR at h
 split at h
 · rename_i env σ obl'
   split at h
   · rename_i hm
     split at h
     · rename_i st2 hn
       simp at h; obtain ⟨rfl,rfl⟩ := h
       exact ⟨env,σ,rfl,fun a w hs => (hs.S (Mu hm)).nar hn⟩
     · cases h
   · cases h
 · cases h
theorem At.seq {x y : Code} (h : At P ro E n x (Exit.then (y.wpIn (wd ro) 0 P Q) Q) st) : At P ro E n (.seq x y) Q st := fun a w hs => wpIn_seq (h a w hs)
theorem At.skip (h : ∀ a w,Sim E n st a w → Q .normal a w) : At P ro E n .skip Q st := fun a w hs => wpIn_skip (h a w hs)
theorem At.exit {id : Nat} (h : ∀ a w,Sim E n st a w → Q (.exit id) a w) : At P ro E n (.exit id) Q st := fun a w hs => wpIn_exit (h a w hs)
theorem At.ret (h : ∀ a w,Sim E n st a w → Q .ret a w) : At P ro E n .ret Q st := fun a w hs => wpIn_ret (h a w hs)
theorem At.block {id : Nat} {c : Code} (h : At P ro E n c (Exit.inBlock id Q) st) : At P ro E n (.block id c) Q st := fun a w hs => wpIn_block (h a w hs)
theorem At.cond {t : Nat} {x y : Code} (b : Bool) (h : st.env.lookup t = some (.d (.bool b))) (ht : b = true → At P ro E n x Q st) (hf : b = false → At P ro E n y Q st) : At P ro E n (.cond (.tmp t) x y) Q st := by
 intro a w hs
 have hs' := hs
 obtain ⟨_,hz,φ,hM,_,hE⟩ := hs
 obtain ⟨v,hv,hr⟩ := hE t _ h
 have := hr.inv_bool; subst this
 have he : a.eval (.tmp t) = .bool b := by simp [Act.eval,Array.getD_eq_getD_getElem?,hv]
 exact wpIn_cond_split he (fun e => ht e a w hs') (fun e => hf e a w hs')
theorem At.loop {S R : Type} (step : S → Option (S ⊕ R)) (f : S → St) (r : R) {c : Code} (s0 : S) (h : Loop step s0 = some r)
    (hbody : ∀ s o,step s = some o → (∀ r',o = .inr r' → r' = r) → At P ro E n c (Exit.then (fun a w => ∃ s',o = .inl s' ∧ Sim E n (f s') a w) Q) (f s)) : At P ro E n (.loop c) Q (f s0) := by
 obtain ⟨k,hk⟩ := Ke h
 intro a w hs
 refine wpIn_loop_rounds k ?_
 clear h
 induction k generalizing s0 a w with
 | zero => simp [iter] at hk
 | succ k ih =>
   rw [roundsIn_succ]
   simp only [iter] at hk
   split at hk
   · rename_i s' hst
     refine wpIn_mono (hbody s0 _ hst (fun r' e => by cases e) a w hs) ?_
     intro e a' w' hq
     cases e with
     | normal => obtain ⟨s2,e2,hs2⟩ := hq; cases e2; exact ih _ hk _ _ hs2
     | _ => exact hq
   · rename_i r' hst
     simp at hk; subst hk
     refine wpIn_mono (hbody s0 _ hst (fun r2 e => by cases e; rfl) a w hs) ?_
     intro e a' w' hq
     cases e with
     | normal => obtain ⟨s2,e2,hs2⟩ := hq; cases e2
     | _ => exact hq
   · cases hk
theorem At.eqv {c : Code} {st1 st2 : St} (h : st1 = st2) (h2 : At P ro E n c Q st2) : At P ro E n c Q st1 := h ▸ h2
theorem At.seqJ {S : Type} {x y : Code} (f : S → St) (G : S → Prop) (h1 : At P ro E n x (Exit.then (fun a w => ∃ s,G s ∧ Sim E n (f s) a w) Q) st) (h2 : ∀ s,G s → At P ro E n y Q (f s)) : At P ro E n (.seq x y) Q st := by
 intro a w hs
 refine wpIn_seq (wpIn_mono (h1 a w hs) ?_)
 intro e a' w' hq
 cases e with
 | normal => obtain ⟨s,hg,hs'⟩ := hq; exact h2 s hg a' w' hs'
 | _ => exact hq
end
end Go.Ab
