/- Calls of functions that have objects: contracts, and what a call looks like from outside. -/
import Derived.Test.YtgldclhdieafkaaGreatAbDraw1
namespace Go.Ab
open Go.RowKit
mutual
def PV.lo : PV → PV
 | .d x => .d x.loose
 | .ptr i o => .ptr i o
 | .row i n => .row i n
 | .view i o n => .view i o n
 | .yld i => .yld i
 | .mapv i => .mapv i
 | .pp cs => .pp cs
 | .fn f a b => .fn f (PV.los a) (PV.los b)
 | .agg cs => .agg (PV.los cs)
 | .dagg cs => .dagg cs
 | .tup cs => .tup (PV.los cs)
 | .undef => .undef
def PV.los : List PV → List PV
 | [] => []
 | x :: l => PV.lo x :: PV.los l
end
theorem Jl : ∀ {l : List PV} {j : Nat} {y : PV},(PV.los l)[j]? = some y → ∃ x,l[j]? = some x ∧ y = x.lo
 | [],j,y,h => by simp [PV.los] at h
 | x :: l,0,y,h => by simp [PV.los] at h; exact ⟨x,rfl,h.symm⟩
 | x :: l,j + 1,y,h => by simp [PV.los] at h; simpa using Jl h
theorem Hq : ∀ (l : List PV),(PV.los l).length = l.length
 | [] => rfl
 | x :: l => by simp [PV.los,Hq l]
theorem RelV.lo {hz : Hp} {φ : Phi} {v : Value} {x : PV} (h : RelV hz φ v x) : RelV hz φ v x.lo := by
 induction h with
 | d h => exact .d h.loose
 | ptr i off g c h => exact .ptr i off g c h
 | row i n g cap h hn hm => exact .row i n g cap h hn hm
 | rowNil i a h => exact .rowNil i a h
 | view i o n g c cap h h1 h2 => exact .view i o n g c cap h h1 h2
 | viewNil i o a h => exact .viewNil i o a h
 | yld i l c h => exact .yld i l c h
 | mapv i g c h => exact .mapv i g c h
 | pp g off cs arr e fr f hg hx hr => exact .pp g off cs arr e fr f hg hx hr
 | fn f a b c d h1 h2 _ _ i1 i2 =>
   refine .fn f a b _ _ (by rw [Hq]; exact h1) (by rw [Hq]; exact h2) ?_ ?_
   · intro j y hy; obtain ⟨x,hx,rfl⟩ := Jl hy; exact i1 j x hx
   · intro j y hy; obtain ⟨x,hx,rfl⟩ := Jl hy; exact i2 j x hx
 | agg cs cs' h _ ih => exact .agg cs _ (by rw [Hq]; exact h) (fun j y hy => by obtain ⟨x,hx,rfl⟩ := Jl hy; exact ih j x hx)
 | dagg cs cs' h r => exact .dagg cs cs' h r
 | tup cs cs' h _ ih => exact .tup cs _ (by rw [Hq]; exact h) (fun j y hy => by obtain ⟨x,hx,rfl⟩ := Jl hy; exact ih j x hx)
 | undef v => exact .undef v
def AObj.lo : AObj → AObj
 | .blk t cs => .blk t (PV.los cs)
 | .dblk t cs => .dblk t cs
 | .row e sz cs => .row e sz cs
 | .mark => .mark
 | .loop ps a b n ks vs st pd => .loop ps a b n ks (PV.los vs) st pd
 | .mp ks vs => .mp ks (PV.los vs)
 | .dmp ag es => .dmp ag es
 | .dead => .dead
 | .ghost v x => .ghost v x.lo
def losA : List AObj → List AObj
 | [] => []
 | o :: l => o.lo :: losA l
theorem Lc : ∀ {l : List AObj} {j : Nat} {y : AObj},(losA l)[j]? = some y → ∃ x,l[j]? = some x ∧ y = x.lo
 | [],j,y,h => by simp [losA] at h
 | x :: l,0,y,h => by simp [losA] at h; exact ⟨x,rfl,h.symm⟩
 | x :: l,j + 1,y,h => by simp [losA] at h; simpa using Lc h
theorem Mn : ∀ (l : List AObj),(losA l).length = l.length
 | [] => rfl
 | x :: l => by simp [losA,Mn l]
theorem Nf (o : AObj) : o.lo.live = o.live := by cases o <;> rfl
section
variable {P : Program} {E : Entry} {hz hz' : Hp} {φ φ' : Phi} {σ σ' : List AObj} {w w' : World}
theorem ObjRel.lo {i : Nat} {o : AObj} (h : ObjRel hz φ w i o) : ObjRel hz φ w i o.lo := by
 cases o with
 | blk t cs =>
   obtain ⟨g,c,arr,h1,h2,h3,h4,h5⟩ := h
   exact ⟨g,c,arr,h1,h2,by rw [Hq]; exact h3,fun j y hy => (let ⟨x,hx,e⟩ := Jl hy; e ▸ (h4 j x hx).lo),h5⟩
 | loop ps a b n ks vs st pd =>
   obtain ⟨g,c,r,h1,h2,h3,h4,h5⟩ := h
   exact ⟨g,c,r,h1,h2,h3,fun j t y hk hy => (let ⟨x,hx,e⟩ := Jl hy; let ⟨v,a1,a2⟩ := h4 j t x hk hx; ⟨v,a1,e ▸ a2.lo⟩),h5⟩
 | mp ks vs =>
   obtain ⟨g,c,es,cl,h1,h2,h3,h4,h5,h6,h7⟩ := h
   exact ⟨g,c,es,cl,h1,h2,h3,by rw [Hq]; exact h4,h5,fun j y hy => (let ⟨x,hx,e⟩ := Jl hy; let ⟨v,a1,a2⟩ := h6 j x hx; ⟨v,a1,e ▸ a2.lo⟩),h7⟩
 | ghost v x => exact RelV.lo h
 | _ => exact h
theorem Mem.lo (hM : Mem E hz φ σ w) : Mem E hz φ (losA σ) w :=
 { knows := hM.knows
   objs := fun i o hi => by obtain ⟨x,hx,rfl⟩ := Lc hi; exact (hM.objs i x hx).lo
   inj := fun i j oi oj g c c' hi hj li lj pi pj => by
    obtain ⟨x,hx,rfl⟩ := Lc hi
    obtain ⟨y,hy,rfl⟩ := Lc hj
    exact hM.inj i j x y g c c' hx hy (by rw [← Nf]; exact li) (by rw [← Nf]; exact lj) pi pj
   new := fun i o g c hi li pi => by
    obtain ⟨x,hx,rfl⟩ := Lc hi
    exact hM.new i x g c hx (by rw [← Nf]; exact li) pi
   dom := fun i hi => hM.dom i (by rw [Mn] at hi; exact hi)
   caps := hM.caps
   os := hM.os,tape := hM.tape,output := hM.output,size := hM.size,kept := hM.kept,hle := hM.hle,hnew := hM.hnew }
def Post (w : World) (hz : Hp) (own : Nat → Prop) (φ : Phi) (res : PV) (σ' : List AObj) (e : List Nat) : Ending → World → Prop := fun en w' =>
 ∃ v hz' φ',en = .returned v ∧ RelV hz' φ' v res ∧ Mem ⟨w,hz,own⟩ hz' φ' σ' w' ∧ ∀ u x,RelV hz φ u x → RelV hz' φ' u (effO e x)
def RelL (hz : Hp) (φ : Phi) (vals : Array Value) (args : List PV) : Prop := vals.size = args.length ∧ ∀ (j : Nat) (x : PV),args[j]? = some x → RelV hz φ (vals.getD j undef) x
def FnOK (P : Program) (f : FuncId) (args : List PV) (σ : List AObj) (res : PV) (σ' : List AObj) (e : List Nat) : Prop :=
 ∀ (w : World) (hz : Hp) (own : Nat → Prop) (φ : Phi) (vals : Array Value),Mem ⟨w,hz,own⟩ hz φ σ w → RelL hz φ vals args → Calls P f vals w (Post w hz own φ res σ' e)
def RdOK (P : Program) (i : Nat) (args : List PV) (σ : List AObj) (res : PV) (σ' : List AObj) (e : List Nat) : Prop :=
 ∀ (w : World) (hz : Hp) (own : Nat → Prop) (φ : Phi) (vals : Array Value) (l c : Nat) (r : Go.Loop),Mem ⟨w,hz,own⟩ hz φ σ w → RelL hz φ vals args → φ i = some (some (l,c)) → w.heap[l]? = some (.loop r) →
   RoundIn Fence.wide 0 P l r.fn ((r.params.zip vals).foldl (fun tmps (x : Nat × Value) => tmps.setIfInBounds x.1 x.2) r.tmps) r.assign r.body w (Post w hz own φ res σ' e)
def NL : Nat → List Nat → Bool
 | _,[] => true
 | k,i :: l => Nat.beq i k && NL (k + 1) l
theorem Lx : ∀ {l : List Nat} {k j i : Nat},NL k l = true → l[j]? = some i → i = k + j
 | [],k,j,i,_,h => by simp at h
 | x :: l,k,0,i,hh,h => by
   simp only [NL,Bool.and_eq_true] at hh
   simp at h; subst h; exact Nat.eq_of_beq_eq_true hh.1
 | x :: l,k,j + 1,i,hh,h => by
   simp only [NL,Bool.and_eq_true] at hh
   have := Lx hh.2 (by simpa using h : l[j]? = some i)
   omega
def Qb (n : Nat) : List Nat → Bool
 | [] => true
 | i :: l => Nat.blt i n && Qb n l
theorem Mz {n : Nat} : ∀ {l : List Nat} {j i : Nat},Qb n l = true → l[j]? = some i → i < n
 | [],j,i,_,h => by simp at h
 | x :: l,0,i,hh,h => by
   simp only [Qb,Bool.and_eq_true] at hh
   simp at h; subst h; exact Nat.le_of_ble_eq_true hh.1
 | x :: l,j + 1,i,hh,h => by
   simp only [Qb,Bool.and_eq_true] at hh
   exact Mz hh.2 (by simpa using h)
def effB (ρ : List Nat) : List Nat → Option (List Nat)
 | [] => some []
 | k :: l => match ρ[k / 2]?,effB ρ l with | some i,some r => some ((2 * i + k % 2) :: r) | _,_ => none
theorem effB_mem {ρ : List Nat} : ∀ {e eb : List Nat} {k i : Nat},effB ρ e = some eb → e.contains k = true → ρ[k / 2]? = some i → eb.contains (2 * i + k % 2) = true
 | [],eb,k,i,_,h,_ => by simp at h
 | x :: l,eb,k,i,hb,h,hi => by
   simp only [effB] at hb
   split at hb
   · rename_i j r hj hr
     simp at hb; subst hb
     simp only [List.contains_cons,Bool.or_eq_true] at h ⊢
     rcases h with h | h
     · have : k = x := by simpa using h
       subst this
       rw [hj] at hi; cases hi
       exact .inl (by simp)
     · exact .inr (effB_mem hr h hi)
   · cases hb
structure PCOut where
 args : List PV
 σ : List AObj
 res : PV
 σb : List AObj
 eb : List Nat
def La (pc : PC) (args : List PV) (σL : List AObj) : Option PCOut :=
 if nodupB pc.ρ && Nat.ble pc.n0 pc.ρ.length && NL σL.length (pc.ρ.drop pc.n0) && Qb σL.length (pc.ρ.take pc.n0) && Nat.beq pc.σ'.length pc.ρ.length then
  match PV.rens (ixOf (pc.ρ.take pc.n0)) (if pc.loose then PV.los args else args),Qv (pc.ρ.take pc.n0) (if pc.loose then losA σL else σL),PV.ren (fun k => pc.ρ[k]?) pc.res,sprσ pc.ρ pc.σ' (σL.length + (pc.ρ.length - pc.n0)),effB pc.ρ pc.e with
  | some a,some s,some r,some sb,some eb => some ⟨a,s,r,sb,eb⟩
  | _,_,_,_,_ => none
 else none
theorem QP {ρ : List Nat} {m i k : Nat} (h : ixOf (ρ.take m) i = some k) : ixOf ρ i = some k ∧ k < m := by
 induction ρ generalizing m k with
 | nil => simp [ixOf] at h
 | cons j l ih =>
   cases m with
   | zero => simp [ixOf] at h
   | succ m =>
     simp only [List.take_succ_cons,ixOf] at h ⊢
     split at h
     · cases h; exact ⟨by rename_i e; rw [if_pos e],by omega⟩
     · rename_i e
       rw [if_neg e]
       split at h
       · rename_i k' hk
         cases h
         obtain ⟨h1,h2⟩ := ih hk
         rw [h1]
         exact ⟨rfl,by omega⟩
       · cases h
theorem nodup_take : ∀ {ρ : List Nat} {m : Nat},nodupB ρ = true → nodupB (ρ.take m) = true
 | [],m,_ => by simp [nodupB]
 | j :: l,0,_ => by simp [nodupB]
 | j :: l,m + 1,h => by
   simp only [nodupB,Bool.and_eq_true,Bool.not_eq_true',List.take_succ_cons] at h ⊢
   refine ⟨?_,nodup_take h.2⟩
   cases hq : (l.take m).contains j with
   | false => rfl
   | true =>
     have : j ∈ l.take m := by simpa using hq
     have : j ∈ l := List.mem_of_mem_take this
     have := h.1
     simp_all
theorem Qx {pc : PC} {args : List PV} {σL : List AObj} {out : PCOut} {own : Nat → Prop} {v : Value} {φc' : Phi} (hc : La pc args σL = some out) (hM : Mem ⟨w,hz,own⟩ hz φ σL w)
    (hr : RelV hz' φc' v pc.res) (hM' : Mem ⟨w,hz,own⟩ hz' φc' pc.σ' w') (ht : ∀ u x,RelV hz (projPhi φ (pc.ρ.take pc.n0)) u x → RelV hz' φc' u (effO pc.e x)) :
    ∃ φ2,RelV hz' φ2 v out.res ∧ Mem ⟨w,hz,own⟩ hz' φ2 out.σb w' ∧ ∀ u x,RelV hz φ u x → RelV hz' φ2 u (effO out.eb x) := by
 unfold La at hc
 split at hc
 case isFalse => cases hc
 rename_i hcond
 simp only [Bool.and_eq_true] at hcond
 obtain ⟨⟨⟨⟨c1,c2⟩,c3⟩,c4⟩,c5⟩ := hcond
 have c2 := Nat.le_of_ble_eq_true c2
 have c5 := Nat.eq_of_beq_eq_true c5
 split at hc
 case h_2 => cases hc
 rename_i a s r sb eb e1 e2 e3 e4 e5
 simp only [Option.some.injEq] at hc; subst hc
 have hle : Hp.le hz hz' := hM'.hle
 have hixn : ∀ i,σL.length + (pc.ρ.length - pc.n0) ≤ i → ixOf pc.ρ i = none := by
  intro i hi
  cases hq : ixOf pc.ρ i with
  | none => rfl
  | some k =>
    exfalso
    have hk := ixOf_get hq
    rcases Nat.lt_or_ge k pc.n0 with hlt | hge
    · have : (pc.ρ.take pc.n0)[k]? = some i := by rw [List.getElem?_take,if_pos hlt]; exact hk
      have := Mz c4 this
      omega
    · have h2 : (pc.ρ.drop pc.n0)[k - pc.n0]? = some i := by rw [List.getElem?_drop,show pc.n0 + (k - pc.n0) = k by omega]; exact hk
      have := Lx c3 h2
      have := AL hk
      omega
 have hnone : ∀ i p,φ i = some p → ixOf (pc.ρ.take pc.n0) i = none → ixOf pc.ρ i = none := by
  intro i p hp h0
  cases hq : ixOf pc.ρ i with
  | none => rfl
  | some k =>
    exfalso
    have hk := ixOf_get hq
    rcases Nat.lt_or_ge k pc.n0 with hlt | hge
    · have : (pc.ρ.take pc.n0)[k]? = some i := by rw [List.getElem?_take,if_pos hlt]; exact hk
      rw [J6 (nodup_take c1) this] at h0; cases h0
    · have h2 : (pc.ρ.drop pc.n0)[k - pc.n0]? = some i := by rw [List.getElem?_drop,show pc.n0 + (k - pc.n0) = k by omega]; exact hk
      have := Lx c3 h2
      rw [hM.dom i (by omega)] at hp; cases hp
 have hspr : ∀ k i p,pc.ρ[k]? = some i → φc' k = some p → sprPhi φc' φ pc.ρ i = some p := Qp c1
 refine ⟨sprPhi φc' φ pc.ρ,hr.ren (f := fun k => pc.ρ[k]?) hspr r e3,hM'.spr c1 e4 (fun i hi => ⟨hM.dom i (by omega),hixn i hi⟩) hM.caps,?_⟩
 have leaf : ∀ (u : Value) (i key : Nat) (p : Option (Nat × Nat)) (mk : Nat → PV),φ i = some p → (∀ ψ j,ψ j = some p → RelV hz ψ u (mk j)) → (∀ e j,effO e (mk j) = if e.contains (2 * j + key) then .undef else mk j) → (∀ (f : Nat → Option Nat) j,(mk j).ren f = match f j with | some k => some (mk k) | none => none) → key < 2 →
     (∀ ψ j,ψ j = some p → RelV hz' ψ u (mk j)) → RelV hz' (sprPhi φc' φ pc.ρ) u (effO eb (mk i)) := by
  intro u i key p mk hp hmk he hren hkey hmk'
  rw [he]
  split
  · exact .undef _
  · rename_i hne
    cases h0 : ixOf (pc.ρ.take pc.n0) i with
    | none =>
      have := hnone i p hp h0
      exact hmk' _ i (by simp only [sprPhi,this]; exact hp)
    | some k =>
      have hx := ht u (mk k) (hmk _ k (proj_phi i k p h0 hp))
      rw [he] at hx
      have hik := (QP h0).1
      have hki := ixOf_get hik
      have hnk : ¬ pc.e.contains (2 * k + key) = true := by
       intro hcon
       have := effB_mem e5 hcon (i := i) (by rw [show (2 * k + key) / 2 = k by omega]; exact hki)
       rw [show (2 * k + key) % 2 = key by omega] at this
       exact hne this
      rw [if_neg hnk] at hx
      exact hx.ren (f := fun k => pc.ρ[k]?) hspr (mk i) (by rw [hren]; simp only [hki])
 intro u x hx
 induction hx with
 | d h => exact .d (h.mono hle)
 | ptr i off g c h => exact leaf _ i 0 _ (fun j => .ptr j off) h (fun ψ j hj => .ptr j off g c hj) (fun e j => by simp [effO]) (fun f j => rfl) (by omega) (fun ψ j hj => .ptr j off g c hj)
 | row i n g cap h hn hm => exact leaf _ i 1 _ (fun j => .row j n) h (fun ψ j hj => .row j n g cap hj hn hm) (fun e j => by simp [effO]) (fun f j => rfl) (by omega) (fun ψ j hj => .row j n g cap hj hn hm)
 | rowNil i a h => exact leaf _ i 1 _ (fun j => .row j 0) h (fun ψ j hj => .rowNil j a hj) (fun e j => by simp [effO]) (fun f j => rfl) (by omega) (fun ψ j hj => .rowNil j a hj)
 | view i o n g c cap h hn hm => exact leaf _ i 0 _ (fun j => .view j o n) h (fun ψ j hj => .view j o n g c cap hj hn hm) (fun e j => by simp [effO]) (fun f j => rfl) (by omega) (fun ψ j hj => .view j o n g c cap hj hn hm)
 | viewNil i o a h => exact leaf _ i 0 _ (fun j => .view j o 0) h (fun ψ j hj => .viewNil j o a hj) (fun e j => by simp [effO]) (fun f j => rfl) (by omega) (fun ψ j hj => .viewNil j o a hj)
 | yld i l c h => exact leaf _ i 0 _ (fun j => .yld j) h (fun ψ j hj => .yld j l c hj) (fun e j => by simp [effO]) (fun f j => rfl) (by omega) (fun ψ j hj => .yld j l c hj)
 | mapv i g c h => exact leaf _ i 0 _ (fun j => .mapv j) h (fun ψ j hj => .mapv j g c hj) (fun e j => by simp [effO]) (fun f j => rfl) (by omega) (fun ψ j hj => .mapv j g c hj)
 | pp g off cs arr e fr f hg hx hr => exact .pp g off cs arr e fr f (hle _ _ hg) hx (fun j x hj => (hr j x hj).mono hle)
 | fn f a b c d h1 h2 _ _ i1 i2 =>
   refine .fn f a b _ _ (by rw [Ds]; exact h1) (by rw [Ds]; exact h2) ?_ ?_
   · intro j y hy; obtain ⟨x,hx,rfl⟩ := FB hy; exact i1 j x hx
   · intro j y hy; obtain ⟨x,hx,rfl⟩ := FB hy; exact i2 j x hx
 | agg cs cs' h _ ih => exact .agg cs _ (by rw [Ds]; exact h) (fun j y hy => by obtain ⟨x,hx,rfl⟩ := FB hy; exact ih j x hx)
 | dagg cs cs' h r => exact .dagg cs cs' h (fun j x hj => (r j x hj).mono hle)
 | tup cs cs' h _ ih => exact .tup cs _ (by rw [Ds]; exact h) (fun j y hy => by obtain ⟨x,hx,rfl⟩ := FB hy; exact ih j x hx)
 | undef v => exact .undef v
theorem S5 {pc : PC} {args : List PV} {σL : List AObj} {out : PCOut} {vals : Array Value} (hc : La pc args σL = some out) (hM : Mem E hz φ σL w) (hv : RelL hz φ vals args) :
    Mem E hz (projPhi φ (pc.ρ.take pc.n0)) out.σ w ∧ RelL hz (projPhi φ (pc.ρ.take pc.n0)) vals out.args := by
 unfold La at hc
 split at hc
 case isFalse => cases hc
 rename_i hcond
 simp only [Bool.and_eq_true] at hcond
 obtain ⟨⟨⟨⟨c1,c2⟩,c3⟩,c4⟩,c5⟩ := hcond
 split at hc
 case h_2 => cases hc
 rename_i a s r sb eb e1 e2 e3 e4 e5
 simp only [Option.some.injEq] at hc; subst hc
 have hv' : RelL hz φ vals (if pc.loose = true then PV.los args else args) := by
  split
  · refine ⟨by rw [Hq]; exact hv.1,fun j y hy => ?_⟩
    obtain ⟨x,hx,rfl⟩ := Jl hy
    exact (hv.2 j x hx).lo
  · exact hv
 have hM' : Mem E hz φ (if pc.loose = true then losA σL else σL) w := by
  split
  · exact hM.lo
  · exact hM
 obtain ⟨l1,l2⟩ := H1 e1
 refine ⟨hM'.proj (nodup_take c1) e2,by rw [l1]; exact hv'.1,fun j y hy => ?_⟩
 obtain ⟨x,hx,hr⟩ := l2 j y hy
 exact (hv'.2 j x hx).ren proj_phi y hr
theorem FnOK.use {f : FuncId} {pc : PC} {args : List PV} {σL : List AObj} {out : PCOut} {own : Nat → Prop} {vals : Array Value} (hc : La pc args σL = some out) (h : FnOK P f out.args out.σ pc.res pc.σ' pc.e)
    (hM : Mem ⟨w,hz,own⟩ hz φ σL w) (hv : RelL hz φ vals args) : Calls P f vals w (Post w hz own φ out.res out.σb out.eb) := by
 obtain ⟨h1,h2⟩ := S5 hc hM hv
 refine (h w hz own _ vals h1 h2).mono ?_
 rintro en w' ⟨v,hz',φ',rfl,k1,k2,k3⟩
 obtain ⟨φ2,m1,m2,m3⟩ := Qx hc hM k1 k2 k3
 exact ⟨v,hz',φ2,rfl,m1,m2,m3⟩
theorem RdOK.use {i k : Nat} {pc : PC} {args : List PV} {σL : List AObj} {out : PCOut} {own : Nat → Prop} {vals : Array Value} {l c : Nat} {r : Go.Loop} (hc : La pc args σL = some out) (h : RdOK P k out.args out.σ pc.res pc.σ' pc.e)
    (hk : ixOf (pc.ρ.take pc.n0) i = some k) (hM : Mem ⟨w,hz,own⟩ hz φ σL w) (hv : RelL hz φ vals args) (hp : φ i = some (some (l,c))) (hl : w.heap[l]? = some (.loop r)) :
    RoundIn Fence.wide 0 P l r.fn ((r.params.zip vals).foldl (fun tmps (x : Nat × Value) => tmps.setIfInBounds x.1 x.2) r.tmps) r.assign r.body w (Post w hz own φ out.res out.σb out.eb) := by
 obtain ⟨h1,h2⟩ := S5 hc hM hv
 refine (h w hz own _ vals l c r h1 h2 (proj_phi i k _ hk hp) hl).mono ?_
 rintro en w' ⟨v,hz',φ',rfl,k1,k2,k3⟩
 obtain ⟨φ2,m1,m2,m3⟩ := Qx hc hM k1 k2 k3
 exact ⟨v,hz',φ2,rfl,m1,m2,m3⟩
end
end Go.Ab
