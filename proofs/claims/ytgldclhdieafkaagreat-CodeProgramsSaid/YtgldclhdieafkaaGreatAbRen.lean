/- Objects under other numbers. -/
import Derived.Test.YtgldclhdieafkaaGreatAbMem
namespace Go.Ab
open Go.RowKit
def ixOf : List Nat → Nat → Option Nat
 | [],_ => none
 | j :: l,i => if i == j then some 0 else match ixOf l i with | some k => some (k + 1) | none => none
theorem ixOf_get : ∀ {ρ : List Nat} {i k : Nat},ixOf ρ i = some k → ρ[k]? = some i
 | [],i,k,h => by simp [ixOf] at h
 | j :: l,i,k,h => by
   simp only [ixOf] at h
   split at h
   · rename_i e
     have : i = j := by simpa using e
     cases h; simp [this]
   · split at h
     · rename_i k' hk; cases h; simpa using ixOf_get hk
     · cases h
def nodupB : List Nat → Bool
 | [] => true
 | i :: l => !(l.contains i) && nodupB l
theorem J6 : ∀ {ρ : List Nat} {i k : Nat},nodupB ρ = true → ρ[k]? = some i → ixOf ρ i = some k
 | [],i,k,_,h => by simp at h
 | j :: l,i,0,hn,h => by simp at h; subst h; simp [ixOf]
 | j :: l,i,k + 1,hn,h => by
   simp only [nodupB,Bool.and_eq_true,Bool.not_eq_true'] at hn
   have h' : l[k]? = some i := by simpa using h
   have hm : i ∈ l := List.mem_of_getElem? h'
   have hne : (i == j) = false := by
    cases hq : i == j with
    | false => rfl
    | true =>
      have : i = j := by simpa using hq
      subst this
      have := hn.1
      simp [hm] at this
   simp only [ixOf,hne,Bool.false_eq_true,if_false,J6 hn.2 h']
mutual
def PV.ren (f : Nat → Option Nat) : PV → Option PV
 | .d x => some (.d x)
 | .ptr i off => match f i with | some k => some (.ptr k off) | none => none
 | .row i n => match f i with | some k => some (.row k n) | none => none
 | .view i off n => match f i with | some k => some (.view k off n) | none => none
 | .yld i => match f i with | some k => some (.yld k) | none => none
 | .mapv i => match f i with | some k => some (.mapv k) | none => none
 | .pp cs => some (.pp cs)
 | .fn g a b => match PV.rens f a,PV.rens f b with | some a',some b' => some (.fn g a' b') | _,_ => none
 | .agg cs => match PV.rens f cs with | some l => some (.agg l) | none => none
 | .dagg cs => some (.dagg cs)
 | .tup cs => match PV.rens f cs with | some l => some (.tup l) | none => none
 | .undef => some .undef
def PV.rens (f : Nat → Option Nat) : List PV → Option (List PV)
 | [] => some []
 | x :: l => match PV.ren f x,PV.rens f l with | some y,some r => some (y :: r) | _,_ => none
end
theorem H1 {f : Nat → Option Nat} : ∀ {l l' : List PV},PV.rens f l = some l' → l'.length = l.length ∧ ∀ (j : Nat) (y : PV),l'[j]? = some y → ∃ x,l[j]? = some x ∧ x.ren f = some y
 | [],l',h => by simp [PV.rens] at h; subst h; simp
 | x :: l,l',h => by
   simp only [PV.rens] at h
   split at h
   · rename_i y r hy hr
     simp at h; subst h
     obtain ⟨h1,h2⟩ := H1 hr
     refine ⟨by simp [h1],fun j z hj => ?_⟩
     match j,hj with
     | 0,hj => simp at hj; subst hj; exact ⟨x,rfl,hy⟩
     | j + 1,hj => simpa using h2 j z (by simpa using hj)
   · cases h
theorem RelV.ren {hz : Hp} {φ φ' : Phi} {f : Nat → Option Nat} (hφ : ∀ i k p,f i = some k → φ i = some p → φ' k = some p) {v : Value} {x : PV} (h : RelV hz φ v x) : ∀ y,x.ren f = some y → RelV hz φ' v y := by
 induction h with
 | d h => intro y hy; simp [PV.ren] at hy; subst hy; exact .d h
 | ptr i off g c h =>
   intro y hy; simp only [PV.ren] at hy; split at hy
   · rename_i k hk; simp at hy; subst hy; exact .ptr k off g c (hφ _ _ _ hk h)
   · cases hy
 | row i n g cap h hn hm =>
   intro y hy; simp only [PV.ren] at hy; split at hy
   · rename_i k hk; simp at hy; subst hy; exact .row k n g cap (hφ _ _ _ hk h) hn hm
   · cases hy
 | rowNil i a h =>
   intro y hy; simp only [PV.ren] at hy; split at hy
   · rename_i k hk; simp at hy; subst hy; exact .rowNil k a (hφ _ _ _ hk h)
   · cases hy
 | view i off n g c cap h hn hm =>
   intro y hy; simp only [PV.ren] at hy; split at hy
   · rename_i k hk; simp at hy; subst hy; exact .view k off n g c cap (hφ _ _ _ hk h) hn hm
   · cases hy
 | viewNil i off a h =>
   intro y hy; simp only [PV.ren] at hy; split at hy
   · rename_i k hk; simp at hy; subst hy; exact .viewNil k off a (hφ _ _ _ hk h)
   · cases hy
 | yld i l c h =>
   intro y hy; simp only [PV.ren] at hy; split at hy
   · rename_i k hk; simp at hy; subst hy; exact .yld k l c (hφ _ _ _ hk h)
   · cases hy
 | mapv i g c h =>
   intro y hy; simp only [PV.ren] at hy; split at hy
   · rename_i k hk; simp at hy; subst hy; exact .mapv k g c (hφ _ _ _ hk h)
   · cases hy
 | pp g off cs arr e fr f' hg hx hr => intro y hy; simp [PV.ren] at hy; subst hy; exact .pp g off cs arr e fr f' hg hx hr
 | fn g a b c d h1 h2 _ _ i1 i2 =>
   intro y hy; simp only [PV.ren] at hy; split at hy
   · rename_i a' b' ha hb
     simp at hy; subst hy
     obtain ⟨l1,l2⟩ := H1 ha
     obtain ⟨m1,m2⟩ := H1 hb
     refine .fn g a b a' b' (by rw [l1]; exact h1) (by rw [m1]; exact h2) ?_ ?_
     · intro j y hj; obtain ⟨x,hx,hr⟩ := l2 j y hj; exact i1 j x hx y hr
     · intro j y hj; obtain ⟨x,hx,hr⟩ := m2 j y hj; exact i2 j x hx y hr
   · cases hy
 | agg cs cs' h _ ih =>
   intro y hy; simp only [PV.ren] at hy; split at hy
   · rename_i l hl
     simp at hy; subst hy
     obtain ⟨l1,l2⟩ := H1 hl
     exact .agg cs l (by rw [l1]; exact h) (fun j y hj => let ⟨x,hx,hr⟩ := l2 j y hj; ih j x hx y hr)
   · cases hy
 | dagg cs cs' h r => intro y hy; simp [PV.ren] at hy; subst hy; exact .dagg cs cs' h r
 | tup cs cs' h _ ih =>
   intro y hy; simp only [PV.ren] at hy; split at hy
   · rename_i l hl
     simp at hy; subst hy
     obtain ⟨l1,l2⟩ := H1 hl
     exact .tup cs l (by rw [l1]; exact h) (fun j y hj => let ⟨x,hx,hr⟩ := l2 j y hj; ih j x hx y hr)
   · cases hy
 | undef v => intro y hy; simp [PV.ren] at hy; subst hy; exact .undef v
def AObj.ren (f : Nat → Option Nat) : AObj → Option AObj
 | .blk t cs => match PV.rens f cs with | some l => some (.blk t l) | none => none
 | .dblk t cs => some (.dblk t cs)
 | .row e sz cs => some (.row e sz cs)
 | .mark => some .mark
 | .loop ps a b n ks vs st pd => match PV.rens f vs with | some l => some (.loop ps a b n ks l st pd) | none => none
 | .mp ks vs => match PV.rens f vs with | some l => some (.mp ks l) | none => none
 | .dmp ag es => some (.dmp ag es)
 | .dead => some .dead
 | .ghost v x => match x.ren f with | some y => some (.ghost v y) | none => none
theorem Rv {f : Nat → Option Nat} {o o' : AObj} (h : o.ren f = some o') : o'.live = o.live := by
 cases o <;> simp only [AObj.ren] at h <;> first | (simp at h; subst h; rfl) | (split at h <;> first | (simp at h; subst h; rfl) | cases h)
section
variable {E : Entry} {hz : Hp} {φ φ' : Phi} {σ σ' : List AObj} {w : World} {f : Nat → Option Nat}
theorem ObjRel.ren {i k : Nat} {o o' : AObj} (h : ObjRel hz φ w i o) (ho : o.ren f = some o') (hf : f i = some k) (hφ : ∀ i k p,f i = some k → φ i = some p → φ' k = some p) : ObjRel hz φ' w k o' := by
 cases o with
 | blk t cs =>
   simp only [AObj.ren] at ho; split at ho
   · rename_i l hl
     simp at ho; subst ho
     obtain ⟨l1,l2⟩ := H1 hl
     obtain ⟨g,c,arr,h1,h2,h3,h4,h5⟩ := h
     exact ⟨g,c,arr,hφ _ _ _ hf h1,h2,by rw [l1]; exact h3,fun j y hj => let ⟨x,hx,hr⟩ := l2 j y hj; (h4 j x hx).ren hφ y hr,h5⟩
   · cases ho
 | dblk t cs =>
   simp [AObj.ren] at ho; subst ho
   obtain ⟨g,c,arr,h1,h2⟩ := h
   exact ⟨g,c,arr,hφ _ _ _ hf h1,h2⟩
 | row e sz cs =>
   simp [AObj.ren] at ho; subst ho
   rcases h with ⟨h1,h2⟩ | ⟨g,cap,arr,fr,h1,h2⟩
   · exact .inl ⟨hφ _ _ _ hf h1,h2⟩
   · exact .inr ⟨g,cap,arr,fr,hφ _ _ _ hf h1,h2⟩
 | mark =>
   simp [AObj.ren] at ho; subst ho
   obtain ⟨g,c,h1,h2⟩ := h
   exact ⟨g,c,hφ _ _ _ hf h1,h2⟩
 | loop ps a b n ks vs st pd =>
   simp only [AObj.ren] at ho; split at ho
   · rename_i l hl
     simp at ho; subst ho
     obtain ⟨l1,l2⟩ := H1 hl
     obtain ⟨g,c,r,h1,h2,h3,h4,h5⟩ := h
     exact ⟨g,c,r,hφ _ _ _ hf h1,h2,h3,fun j t y hk hj => let ⟨x,hx,hr⟩ := l2 j y hj; let ⟨v,a1,a2⟩ := h4 j t x hk hx; ⟨v,a1,a2.ren hφ y hr⟩,h5⟩
   · cases ho
 | mp ks vs =>
   simp only [AObj.ren] at ho; split at ho
   · rename_i l hl
     simp at ho; subst ho
     obtain ⟨l1,l2⟩ := H1 hl
     obtain ⟨g,c,es,cl,h1,h2,h3,h4,h5,h6,h7⟩ := h
     exact ⟨g,c,es,cl,hφ _ _ _ hf h1,h2,h3,by rw [l1]; exact h4,h5,fun j y hj => let ⟨x,hx,hr⟩ := l2 j y hj; let ⟨e,a1,a2⟩ := h6 j x hx; ⟨e,a1,a2.ren hφ y hr⟩,h7⟩
   · cases ho
 | dmp ag l =>
   simp [AObj.ren] at ho; subst ho
   obtain ⟨g,c,es,cl,h1,h2⟩ := h
   exact ⟨g,c,es,cl,hφ _ _ _ hf h1,h2⟩
 | dead => simp [AObj.ren] at ho; subst ho; trivial
 | ghost v x =>
   simp only [AObj.ren] at ho; split at ho
   · rename_i y hy; simp at ho; subst ho; exact RelV.ren hφ h y hy
   · cases ho
theorem Mem.ren (hM : Mem E hz φ σ w) (hinj : ∀ i j k,f i = some k → f j = some k → i = j) (hφ : ∀ i k p,f i = some k → φ i = some p → φ' k = some p) (hdom : ∀ k,σ'.length ≤ k → φ' k = none)
    (hcap : ∀ k g c,φ' k = some (some (g,c)) → c ≤ maxLen) (hσ : ∀ k o',σ'[k]? = some o' → o' = .dead ∨ ∃ i o,f i = some k ∧ σ[i]? = some o ∧ o.ren f = some o') : Mem E hz φ' σ' w := by
 have back : ∀ k o' g c,σ'[k]? = some o' → o'.live = true → φ' k = some (some (g,c)) → ∃ i o,f i = some k ∧ σ[i]? = some o ∧ o.live = true ∧ φ i = some (some (g,c)) := by
  intro k o' g c hk hl hp
  rcases hσ k o' hk with rfl | ⟨i,o,h1,h2,h3⟩
  · cases hl
  · have hl' : o.live = true := by rw [← Rv h3]; exact hl
    refine ⟨i,o,h1,h2,hl',?_⟩
    rcases (hM.objs i o h2).place hl' with h | ⟨g',c',O,h,_⟩
    · have := hφ _ _ _ h1 h; rw [hp] at this; cases this
    · have := hφ _ _ _ h1 h; rw [hp] at this; cases this; exact h
 exact
 { knows := hM.knows
   objs := fun k o' hk => by
    rcases hσ k o' hk with rfl | ⟨i,o,h1,h2,h3⟩
    · trivial
    · exact (hM.objs i o h2).ren h3 h1 hφ
   inj := fun a b oa ob g c c' ha hb la lb pa pb => by
    obtain ⟨i,o,h1,h2,h3,h4⟩ := back a oa g c ha la pa
    obtain ⟨j,o2,k1,k2,k3,k4⟩ := back b ob g c' hb lb pb
    have := hM.inj i j o o2 g c c' h2 k2 h3 k3 h4 k4
    subst this
    rw [h1] at k1; cases k1; rfl
   new := fun a oa g c ha la pa => by
    obtain ⟨i,o,h1,h2,h3,h4⟩ := back a oa g c ha la pa
    exact hM.new i o g c h2 h3 h4
   dom := hdom
   caps := hcap
   os := hM.os,tape := hM.tape,output := hM.output,size := hM.size,kept := hM.kept,hle := hM.hle,hnew := hM.hnew }
def projPhi (φ : Phi) (ρ : List Nat) : Phi := fun k => match ρ[k]? with | some i => φ i | none => none
def NY (f : Nat → Option Nat) (σ : List AObj) : List Nat → Option (List AObj)
 | [] => some []
 | i :: l => match σ[i]?,NY f σ l with
   | some o,some r => match o.ren f with
     | some o' => some (o' :: r)
     | none => none
   | _,_ => none
def Qv (ρ : List Nat) (σ : List AObj) : Option (List AObj) := NY (ixOf ρ) σ ρ
theorem MQ : ∀ {l : List Nat} {r : List AObj},NY f σ l = some r → r.length = l.length ∧ ∀ (k : Nat) (o' : AObj),r[k]? = some o' → ∃ i o,l[k]? = some i ∧ σ[i]? = some o ∧ o.ren f = some o'
 | [],r,h => by simp [NY] at h; subst h; simp
 | i :: l,r,h => by
   simp only [NY] at h
   split at h
   · rename_i o r' ho hr
     split at h
     · rename_i o' ho'
       simp at h; subst h
       obtain ⟨h1,h2⟩ := MQ hr
       refine ⟨by simp [h1],fun k x hk => ?_⟩
       match k,hk with
       | 0,hk => simp at hk; subst hk; exact ⟨i,o,rfl,ho,ho'⟩
       | k + 1,hk => simpa using h2 k x (by simpa using hk)
     · cases h
   · cases h
theorem proj_phi {ρ : List Nat} : ∀ i k p,ixOf ρ i = some k → φ i = some p → projPhi φ ρ k = some p := by
 intro i k p h1 h2
 simp only [projPhi,ixOf_get h1]; exact h2
theorem Mem.proj {ρ : List Nat} (hM : Mem E hz φ σ w) (hn : nodupB ρ = true) (h : Qv ρ σ = some σ') : Mem E hz (projPhi φ ρ) σ' w := by
 obtain ⟨h1,h2⟩ := MQ h
 refine hM.ren (f := ixOf ρ) ?_ proj_phi ?_ ?_ ?_
 · intro i j k hi hj
   have a := ixOf_get hi
   have b := ixOf_get hj
   rw [a] at b; cases b; rfl
 · intro k hk
   rw [h1] at hk
   simp only [projPhi,List.getElem?_eq_none hk]
 · intro k g c hk
   simp only [projPhi] at hk
   split at hk
   · exact hM.caps _ _ _ hk
   · cases hk
 · intro k o' hk
   obtain ⟨i,o,a,b,c⟩ := h2 k o' hk
   exact .inr ⟨i,o,J6 hn a,b,c⟩
def sprPhi (φ φ0 : Phi) (ρ : List Nat) : Phi := fun i => match ixOf ρ i with | some k => φ k | none => φ0 i
def PN (f : Nat → Option Nat) (ρ : List Nat) (σ : List AObj) : Nat → Nat → Option (List AObj)
 | _,0 => some []
 | i,n + 1 =>
   match ixOf ρ i with
   | none => match PN f ρ σ (i + 1) n with | some r => some (.dead :: r) | none => none
   | some k =>
     match σ[k]?,PN f ρ σ (i + 1) n with
     | some o,some r => match o.ren f with
       | some o' => some (o' :: r)
       | none => none
     | _,_ => none
theorem L7 {ρ : List Nat} : ∀ {n i : Nat} {r : List AObj},PN f ρ σ i n = some r → r.length = n ∧ ∀ (j : Nat) (o' : AObj),r[j]? = some o' → o' = .dead ∨ ∃ k o,ixOf ρ (i + j) = some k ∧ σ[k]? = some o ∧ o.ren f = some o'
 | 0,i,r,h => by simp [PN] at h; subst h; simp
 | n + 1,i,r,h => by
   simp only [PN] at h
   split at h
   · split at h
     · rename_i r' hr
       simp at h; subst h
       obtain ⟨h1,h2⟩ := L7 hr
       refine ⟨by simp [h1],fun j x hj => ?_⟩
       match j,hj with
       | 0,hj => simp at hj; exact .inl hj.symm
       | j + 1,hj => have := h2 j x (by simpa using hj); rwa [show i + 1 + j = i + (j + 1) by omega] at this
     · cases h
   · rename_i k hk
     split at h
     · rename_i o r' ho hr
       split at h
       · rename_i o' ho'
         simp at h; subst h
         obtain ⟨h1,h2⟩ := L7 hr
         refine ⟨by simp [h1],fun j x hj => ?_⟩
         match j,hj with
         | 0,hj => simp at hj; subst hj; exact .inr ⟨k,o,hk,ho,ho'⟩
         | j + 1,hj => have := h2 j x (by simpa using hj); rwa [show i + 1 + j = i + (j + 1) by omega] at this
       · cases h
     · cases h
def sprσ (ρ : List Nat) (σ : List AObj) (n : Nat) : Option (List AObj) := PN (fun k => ρ[k]?) ρ σ 0 n
theorem Qp {φ0 : Phi} {ρ : List Nat} (hn : nodupB ρ = true) : ∀ k i p,ρ[k]? = some i → φ k = some p → sprPhi φ φ0 ρ i = some p := by
 intro k i p h1 h2
 simp only [sprPhi,J6 hn h1]; exact h2
theorem Mem.spr {φ0 : Phi} {ρ : List Nat} {n : Nat} (hM : Mem E hz φ σ w) (hn : nodupB ρ = true) (h : sprσ ρ σ n = some σ') (hd : ∀ i,n ≤ i → φ0 i = none ∧ ixOf ρ i = none) (hc : ∀ i g c,φ0 i = some (some (g,c)) → c ≤ maxLen) : Mem E hz (sprPhi φ φ0 ρ) σ' w := by
 obtain ⟨h1,h2⟩ := L7 h
 refine hM.ren (f := fun k => ρ[k]?) ?_ (Qp hn) ?_ ?_ ?_
 · intro i j k hi hj
   have a := J6 hn hi
   have b := J6 hn hj
   rw [a] at b; cases b; rfl
 · intro k hk
   rw [h1] at hk
   obtain ⟨a,b⟩ := hd k hk
   simp only [sprPhi,b]; exact a
 · intro k g c hk
   simp only [sprPhi] at hk
   split at hk
   · exact hM.caps _ _ _ hk
   · exact hc _ _ _ hk
 · intro k o' hk
   rcases h2 k o' hk with h | ⟨j,o,a,b,c⟩
   · exact .inl h
   · rw [Nat.zero_add] at a
     exact .inr ⟨j,o,ixOf_get a,b,c⟩
end
end Go.Ab
