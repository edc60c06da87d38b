/- An operation looks at a part of memory; the rest stays. -/
import Derived.Test.YtgldclhdieafkaaGreatAbAt
namespace Go.Ab
open Go.RowKit
mutual
def PV.noM (lo hi : Nat) : PV → Bool
 | .d _ => true
 | .ptr i _ => i < lo || hi ≤ i
 | .row i _ => i < lo || hi ≤ i
 | .view i _ _ => i < lo || hi ≤ i
 | .yld i => i < lo || hi ≤ i
 | .mapv i => i < lo || hi ≤ i
 | .pp _ => true
 | .fn _ a b => PV.noMs lo hi a && PV.noMs lo hi b
 | .agg cs => PV.noMs lo hi cs
 | .dagg _ => true
 | .tup cs => PV.noMs lo hi cs
 | .undef => true
def PV.noMs (lo hi : Nat) : List PV → Bool
 | [] => true
 | x :: l => PV.noM lo hi x && PV.noMs lo hi l
end
def AObj.noM (lo hi : Nat) : AObj → Bool
 | .blk _ cs => PV.noMs lo hi cs
 | .loop _ _ _ _ _ vs _ _ => PV.noMs lo hi vs
 | .mp _ vs => PV.noMs lo hi vs
 | .ghost _ x => x.noM lo hi
 | _ => true
theorem Jd {lo hi : Nat} : ∀ {l : List PV} {j : Nat} {x : PV},PV.noMs lo hi l = true → l[j]? = some x → x.noM lo hi = true
 | [],j,x,_,h => by simp at h
 | y :: l,0,x,hb,h => by simp [PV.noMs] at hb h; subst h; exact hb.1
 | y :: l,j + 1,x,hb,h => by simp [PV.noMs] at hb h; exact Jd hb.2 h
mutual
def effO (e : List Nat) : PV → PV
 | .d x => .d x
 | .ptr j off => if e.contains (2 * j) then .undef else .ptr j off
 | .row j n => if e.contains (2 * j + 1) then .undef else .row j n
 | .view j off n => if e.contains (2 * j) then .undef else .view j off n
 | .yld j => if e.contains (2 * j) then .undef else .yld j
 | .mapv j => if e.contains (2 * j) then .undef else .mapv j
 | .pp cs => .pp cs
 | .fn f a b => .fn f (Ix e a) (Ix e b)
 | .agg cs => .agg (Ix e cs)
 | .dagg cs => .dagg cs
 | .tup cs => .tup (Ix e cs)
 | .undef => .undef
def Ix (e : List Nat) : List PV → List PV
 | [] => []
 | x :: l => effO e x :: Ix e l
end
theorem Np (e : List Nat) : ∀ l,Ix e l = l.map (effO e)
 | [] => rfl
 | x :: l => by simp [Ix,Np e l]
theorem FB {e : List Nat} {l : List PV} {j : Nat} {y : PV} (h : (Ix e l)[j]? = some y) : ∃ x,l[j]? = some x ∧ y = effO e x := by
 rw [Np,List.getElem?_map] at h
 cases hx : l[j]? with
 | none => rw [hx] at h; cases h
 | some x => rw [hx] at h; exact ⟨x,rfl,by simpa using h.symm⟩
theorem Ds (e : List Nat) (l : List PV) : (Ix e l).length = l.length := by rw [Np]; simp
mutual
theorem Kr : ∀ (x : PV),effO [] x = x
 | .d _ => by simp [effO]
 | .ptr j o => by simp [effO]
 | .row j o => by simp [effO]
 | .view j o n => by simp [effO]
 | .yld j => by simp [effO]
 | .mapv j => by simp [effO]
 | .pp _ => by simp [effO]
 | .fn f a b => by simp only [effO,Hd a,Hd b]
 | .agg cs => by simp only [effO,Hd cs]
 | .dagg _ => by simp [effO]
 | .tup cs => by simp only [effO,Hd cs]
 | .undef => by simp [effO]
theorem Hd : ∀ (l : List PV),Ix [] l = l
 | [] => rfl
 | x :: l => by simp only [Ix,Kr x,Hd l]
end
mutual
theorem PB (i : Nat) : ∀ (x : PV),effO [2 * i,2 * i + 1] x = x.sub i fun _ => .undef
 | .d _ => by simp [effO,PV.sub]
 | .ptr j o => by
   have h : (2 * j = 2 * i ∨ 2 * j = 2 * i + 1) ↔ j = i := by omega
   simp [effO,PV.sub,h]
 | .row j o => by
   have h : (2 * j + 1 = 2 * i ∨ 2 * j = 2 * i) ↔ j = i := by omega
   simp [effO,PV.sub,h]
 | .view j o n => by
   have h : (2 * j = 2 * i ∨ 2 * j = 2 * i + 1) ↔ j = i := by omega
   simp [effO,PV.sub,h]
 | .yld j => by
   have h : (2 * j = 2 * i ∨ 2 * j = 2 * i + 1) ↔ j = i := by omega
   simp [effO,PV.sub,h]
 | .mapv j => by
   have h : (2 * j = 2 * i ∨ 2 * j = 2 * i + 1) ↔ j = i := by omega
   simp [effO,PV.sub,h]
 | .pp _ => by simp [effO,PV.sub]
 | .fn f a b => by simp only [effO,PV.sub,Ka i a,Ka i b]
 | .agg cs => by simp only [effO,PV.sub,Ka i cs]
 | .dagg _ => by simp [effO,PV.sub]
 | .tup cs => by simp only [effO,PV.sub,Ka i cs]
 | .undef => by simp [effO,PV.sub]
theorem Ka (i : Nat) : ∀ (l : List PV),Ix [2 * i,2 * i + 1] l = PV.subs i (fun _ => .undef) l
 | [] => rfl
 | x :: l => by simp only [Ix,PV.subs,PB i x,Ka i l]
end
def effA (e : List Nat) : AObj → AObj
 | .blk t cs => .blk t (Ix e cs)
 | .loop ps a b n ks vs st pd => .loop ps a b n ks (Ix e vs) st pd
 | .mp ks vs => .mp ks (Ix e vs)
 | .ghost v x => .ghost v (effO e x)
 | o => o
def effF : List Nat → Option (Nat × (Nat → PV))
 | [] => none
 | i :: _ => some (i / 2,fun _ => .undef)
def Ts (e : List Nat) : Prop := e = [] ∨ ∃ i,e = [2 * i,2 * i + 1]
theorem QV {e : List Nat} (h : Ts e) (x : PV) : x.effs (effF e) = effO e x := by
 rcases h with rfl | ⟨i,rfl⟩
 · rw [Kr]; rfl
 · rw [PB]
   show x.sub (2 * i / 2) _ = _
   rw [show 2 * i / 2 = i by omega]
def P6 : List Nat → List AObj → Bool
 | [],_ => true
 | i :: l,σ => (match σ[i / 2]? with | some o => o.live | none => false) && P6 l σ
theorem effIn_get {σ : List AObj} : ∀ {e : List Nat},P6 e σ = true → ∀ i,e.contains i = true → ∃ o,σ[i / 2]? = some o ∧ o.live = true
 | [],_,i,h => by simp at h
 | k :: l,hh,i,h => by
   simp only [P6,Bool.and_eq_true] at hh
   simp only [List.contains_cons,Bool.or_eq_true] at h
   rcases h with h | h
   · have : i = k := by simpa using h
     subst this
     have h1 := hh.1
     split at h1
     · rename_i o ho; exact ⟨o,ho,h1⟩
     · cases h1
   · exact effIn_get hh.2 i h
def overlay : List (Option AObj) → List AObj → List AObj
 | [],σ => σ
 | _ :: _,[] => []
 | none :: u,y :: σ => y :: overlay u σ
 | some x :: u,_ :: σ => x :: overlay u σ
theorem overlay_get : ∀ (u : List (Option AObj)) (σ : List AObj) (i : Nat),(overlay u σ)[i]? = match u[i]? with | some (some x) => (σ[i]?).map fun _ => x | _ => σ[i]?
 | [],σ,i => by simp [overlay]
 | _ :: _,[],i => by simp [overlay]; split <;> simp
 | none :: u,y :: σ,0 => by simp [overlay]
 | none :: u,y :: σ,i + 1 => by simpa [overlay] using overlay_get u σ i
 | some x :: u,y :: σ,0 => by simp [overlay]
 | some x :: u,y :: σ,i + 1 => by simpa [overlay] using overlay_get u σ i
theorem Io : ∀ (u : List (Option AObj)) (σ : List AObj),(overlay u σ).length = σ.length
 | [],σ => rfl
 | _ :: _,[] => rfl
 | none :: u,y :: σ => by simp [overlay,Io u σ]
 | some x :: u,y :: σ => by simp [overlay,Io u σ]
def over : List AObj → List AObj → List (Option AObj)
 | [],σ' => σ'.map some
 | _ :: _,[] => []
 | l :: σL,x :: σ' => (if l.live then some x else none) :: over σL σ'
theorem over_get : ∀ (σL σ' : List AObj) (i : Nat),(over σL σ')[i]? = (σ'[i]?).map fun x => match σL[i]? with | some l => if l.live then some x else none | none => some x
 | [],σ',i => by simp [over]
 | _ :: _,[],i => by simp [over]
 | l :: σL,x :: σ',0 => by simp [over]
 | l :: σL,x :: σ',i + 1 => by simpa [over] using over_get σL σ' i
section
variable {P : Program} {E : Entry} {hz hz' : Hp} {φ φ' : Phi} {σ : List AObj} {w w' : World}
theorem Mem.part {σL : List AObj} (hM : Mem E hz φ σ w) (hσ : ∀ (i : Nat) (o : AObj),σL[i]? = some o → o.live = true → σ[i]? = some o) (hg : ∀ (i : Nat) (o : AObj),σL[i]? = some o → o.live = true ∨ o = .dead) (hb : Nb σL.length σL = true) :
    Mem ⟨w,hz,fun g => ∃ i o c,σL[i]? = some o ∧ o.live = true ∧ φ i = some (some (g,c))⟩ hz (fun i => if i < σL.length then φ i else none) σL w :=
 { knows := hM.knows
   objs := fun i o hi => by
    have hlt := AL hi
    by_cases hl : o.live = true
    · have hob := Mc hb hi
      have ho := hM.objs i o (hσ i o hi hl)
      cases o with
      | blk t cs =>
        obtain ⟨g,c,arr,e1,e2,e3,e4,e5⟩ := ho
        exact ⟨g,c,arr,by simp [hlt,e1],e2,e3,fun j x hj => (e4 j x hj).cut (GF (by simpa [AObj.inB] using hob) hj),e5⟩
      | dblk t cs =>
        obtain ⟨g,c,arr,e1,e2⟩ := ho
        exact ⟨g,c,arr,by simp [hlt,e1],e2⟩
      | row e sz cs =>
        rcases ho with ⟨e1,e2⟩ | ⟨g,cap,arr,fr,e1,e2⟩
        · exact .inl ⟨by simp [hlt,e1],e2⟩
        · exact .inr ⟨g,cap,arr,fr,by simp [hlt,e1],e2⟩
      | mark =>
        obtain ⟨g,c,e1,e2⟩ := ho
        exact ⟨g,c,by simp [hlt,e1],e2⟩
      | loop ps a b n ks vs st pd =>
        obtain ⟨g,c,r,e1,e2,e3,e4,e5⟩ := ho
        exact ⟨g,c,r,by simp [hlt,e1],e2,e3,fun j t x hk hj => (let ⟨v,a1,a2⟩ := e4 j t x hk hj; ⟨v,a1,a2.cut (GF (by simpa [AObj.inB] using hob) hj)⟩),e5⟩
      | mp ks vs =>
        obtain ⟨g,c,es,cl,e1,e2,e3,e4,e5,e6,e7⟩ := ho
        exact ⟨g,c,es,cl,by simp [hlt,e1],e2,e3,e4,e5,fun j x hj => (let ⟨e,a1,a2⟩ := e6 j x hj; ⟨e,a1,a2.cut (GF (by simpa [AObj.inB] using hob) hj)⟩),e7⟩
      | dmp ag l =>
        obtain ⟨g,c,es,cl,e1,e2⟩ := ho
        exact ⟨g,c,es,cl,by simp [hlt,e1],e2⟩
      | dead => trivial
      | ghost v x => cases hl
    · rcases hg i o hi with h | h
      · exact absurd h hl
      · subst h; trivial
   inj := fun i j oi oj g c c' hi hj li lj pi pj => by
    have h1 := AL hi
    have h2 := AL hj
    simp [h1] at pi
    simp [h2] at pj
    exact hM.inj i j oi oj g c c' (hσ i oi hi li) (hσ j oj hj lj) li lj pi pj
   new := fun i o g c hi li pi => by
    have h1 := AL hi
    simp [h1] at pi
    exact .inr ⟨i,o,c,hi,li,pi⟩
   dom := fun i hi => by simp [Nat.not_lt.2 hi]
   caps := fun i g c hi => by
    split at hi
    · exact hM.caps i g c hi
    · cases hi
   os := rfl,tape := rfl,output := rfl,size := Nat.le_refl _
   kept := fun _ _ _ => rfl
   hle := Hp.le_refl _
   hnew := fun g o hg => .inl hg }
theorem Q5 {e : List Nat} {r m : Nat} (hle : Hp.le hz hz') (hrm : r ≤ m)
    (ht : ∀ u x,RelV hz (fun i => if i < r then φ i else none) u x → RelV hz' φ' u (effO e x)) {u : Value} {x : PV} (h : RelV hz φ u x) (hn : x.noM r m = true) :
    RelV hz' (fun i => if i < m then φ' i else φ i) u (effO e x) := by
 induction h with
 | d h => exact .d (h.mono hle)
 | ptr i off g c h =>
   simp only [effO]
   split
   · exact .undef _
   · rename_i hne
     by_cases hi : i < r
     · have := ht (.pointer (some ⟨g,off,none⟩)) (.ptr i off) (.ptr i off g c (by simp [hi,h]))
       simp only [effO] at this
       rw [if_neg hne] at this
       cases this with
       | ptr _ _ _ c' h' => exact .ptr i off g c' (by simp [Nat.lt_of_lt_of_le hi hrm]; exact h')
     · have hm : m ≤ i := by simp [PV.noM] at hn; omega
       exact .ptr i off g c (by simp [Nat.not_lt.2 hm,h])
 | row i n g cap h hn' hm' =>
   simp only [effO]
   split
   · exact .undef _
   · rename_i hne
     by_cases hi : i < r
     · have := ht (.slice (some ⟨g,0,none⟩) n cap) (.row i n) (.row i n g cap (by simp [hi,h]) hn' hm')
       have hlt := Nat.lt_of_lt_of_le hi hrm
       simp only [effO] at this
       rw [if_neg hne] at this
       cases this with
       | row _ _ _ _ h' h1 h2 => exact .row i n g cap (by simp [hlt]; exact h') h1 h2
       | rowNil _ _ h' => exact .rowNil i _ (by simp [hlt]; exact h')
     · have hm : m ≤ i := by simp [PV.noM] at hn; omega
       exact .row i n g cap (by simp [Nat.not_lt.2 hm,h]) hn' hm'
 | rowNil i a h =>
   simp only [effO]
   split
   · exact .undef _
   · rename_i hne
     by_cases hi : i < r
     · have := ht (.slice none 0 0) (.row i 0) (.rowNil i none (by simp [hi,h]))
       have hlt := Nat.lt_of_lt_of_le hi hrm
       simp only [effO] at this
       rw [if_neg hne] at this
       cases this with
       | rowNil _ _ h' => exact .rowNil i _ (by simp [hlt]; exact h')
     · have hm : m ≤ i := by simp [PV.noM] at hn; omega
       exact .rowNil i a (by simp [Nat.not_lt.2 hm,h])
 | view i off n g c cap h hn' hm' =>
   simp only [effO]
   split
   · exact .undef _
   · rename_i hne
     by_cases hi : i < r
     · have := ht (.pointer (some ⟨g,0,none⟩)) (.ptr i 0) (.ptr i 0 g c (by simp [hi,h]))
       simp only [effO] at this
       rw [if_neg hne] at this
       cases this with
       | ptr _ _ _ c' h' => exact .view i off n g c' cap (by simp [Nat.lt_of_lt_of_le hi hrm]; exact h') hn' hm'
     · have hm : m ≤ i := by simp [PV.noM] at hn; omega
       exact .view i off n g c cap (by simp [Nat.not_lt.2 hm,h]) hn' hm'
 | viewNil i off a h =>
   simp only [effO]
   split
   · exact .undef _
   · rename_i hne
     by_cases hi : i < r
     · have := ht (.slice none 0 0) (.view i off 0) (.viewNil i off none (by simp [hi,h]))
       have hlt := Nat.lt_of_lt_of_le hi hrm
       simp only [effO] at this
       rw [if_neg hne] at this
       cases this with
       | viewNil _ _ _ h' => exact .viewNil i off _ (by simp [hlt]; exact h')
     · have hm : m ≤ i := by simp [PV.noM] at hn; omega
       exact .viewNil i off a (by simp [Nat.not_lt.2 hm,h])
 | yld i l c h =>
   simp only [effO]
   split
   · exact .undef _
   · rename_i hne
     by_cases hi : i < r
     · have := ht (.pointer (some ⟨l,0,none⟩)) (.ptr i 0) (.ptr i 0 l c (by simp [hi,h]))
       simp only [effO] at this
       rw [if_neg hne] at this
       cases this with
       | ptr _ _ _ c' h' => exact .yld i l c' (by simp [Nat.lt_of_lt_of_le hi hrm]; exact h')
     · have hm : m ≤ i := by simp [PV.noM] at hn; omega
       exact .yld i l c (by simp [Nat.not_lt.2 hm,h])
 | mapv i g c h =>
   simp only [effO]
   split
   · exact .undef _
   · rename_i hne
     by_cases hi : i < r
     · have := ht (.pointer (some ⟨g,0,none⟩)) (.ptr i 0) (.ptr i 0 g c (by simp [hi,h]))
       simp only [effO] at this
       rw [if_neg hne] at this
       cases this with
       | ptr _ _ _ c' h' => exact .mapv i g c' (by simp [Nat.lt_of_lt_of_le hi hrm]; exact h')
     · have hm : m ≤ i := by simp [PV.noM] at hn; omega
       exact .mapv i g c (by simp [Nat.not_lt.2 hm,h])
 | pp g off cs arr e' fr f hg hx hr => exact .pp g off cs arr e' fr f (hle _ _ hg) hx (fun j x hj => (hr j x hj).mono hle)
 | fn f a b c d h1 h2 _ _ i1 i2 =>
   simp [PV.noM] at hn
   refine .fn f a b _ _ (by rw [Ds]; exact h1) (by rw [Ds]; exact h2) ?_ ?_
   · intro j y hy; obtain ⟨x,hx,rfl⟩ := FB hy; exact i1 j x hx (Jd hn.1 hx)
   · intro j y hy; obtain ⟨x,hx,rfl⟩ := FB hy; exact i2 j x hx (Jd hn.2 hx)
 | agg cs cs' h _ ih =>
   have hn' : PV.noMs r m cs' = true := by simpa [PV.noM] using hn
   refine .agg cs _ (by rw [Ds]; exact h) ?_
   intro j y hy; obtain ⟨x,hx,rfl⟩ := FB hy; exact ih j x hx (Jd hn' hx)
 | dagg cs cs' h r => exact .dagg cs cs' h (fun j x hj => (r j x hj).mono hle)
 | tup cs cs' h _ ih =>
   have hn' : PV.noMs r m cs' = true := by simpa [PV.noM] using hn
   refine .tup cs _ (by rw [Ds]; exact h) ?_
   intro j y hy; obtain ⟨x,hx,rfl⟩ := FB hy; exact ih j x hx (Jd hn' hx)
 | undef v => exact .undef v
theorem RelV.cong {m : Nat} {v : Value} {x : PV} (h : RelV hz φ v x) (hb : x.inB m = true) (hp : ∀ i,i < m → φ' i = φ i) : RelV hz φ' v x := by
 induction h with
 | d h => exact .d h
 | ptr i off g c h => simp [PV.inB] at hb; exact .ptr i off g c (by rw [hp i hb]; exact h)
 | row i n g cap h hn hm => simp [PV.inB] at hb; exact .row i n g cap (by rw [hp i hb]; exact h) hn hm
 | rowNil i a h => simp [PV.inB] at hb; exact .rowNil i a (by rw [hp i hb]; exact h)
 | view i o n g c cap h hn hm => simp [PV.inB] at hb; exact .view i o n g c cap (by rw [hp i hb]; exact h) hn hm
 | viewNil i o a h => simp [PV.inB] at hb; exact .viewNil i o a (by rw [hp i hb]; exact h)
 | yld i l c h => simp [PV.inB] at hb; exact .yld i l c (by rw [hp i hb]; exact h)
 | mapv i g c h => simp [PV.inB] at hb; exact .mapv i g c (by rw [hp i hb]; exact h)
 | pp g off cs arr e fr f hg hx hr => exact .pp g off cs arr e fr f hg hx hr
 | fn f a b c d h1 h2 _ _ i1 i2 =>
   simp [PV.inB] at hb
   exact .fn f a b c d h1 h2 (fun j x hj => i1 j x hj (GF hb.1 hj)) (fun j x hj => i2 j x hj (GF hb.2 hj))
 | agg cs cs' h _ ih => exact .agg cs cs' h (fun j x hj => ih j x hj (GF (by simpa [PV.inB] using hb) hj))
 | dagg cs cs' h r => exact .dagg cs cs' h r
 | tup cs cs' h _ ih => exact .tup cs cs' h (fun j x hj => ih j x hj (GF (by simpa [PV.inB] using hb) hj))
 | undef v => exact .undef v
theorem effA_live (e : List Nat) (o : AObj) : (effA e o).live = o.live := by
 cases o <;> rfl
theorem glue_get {e : List Nat} {σL σ' : List AObj} {i : Nat} {o' : AObj} (h : (overlay (over σL σ') (σ.map (effA e)))[i]? = some o') (hl2 : σ'.length ≤ σ.length) :
    (i < σ'.length ∧ σ'[i]? = some o' ∧ (σL.length ≤ i ∨ ∃ l,σL[i]? = some l ∧ l.live = true)) ∨
    (∃ o,σ[i]? = some o ∧ o' = effA e o ∧ ((i < σL.length ∧ ∃ l,σL[i]? = some l ∧ l.live = false) ∨ σ'.length ≤ i)) := by
 rw [overlay_get,over_get,List.getElem?_map] at h
 rcases Nat.lt_or_ge i σ'.length with hi | hi
 · have hs : σ'[i]? = some σ'[i] := List.getElem?_eq_getElem hi
   have ho : σ[i]? = some (σ[i]'(Nat.lt_of_lt_of_le hi hl2)) := List.getElem?_eq_getElem (Nat.lt_of_lt_of_le hi hl2)
   rw [hs,ho] at h
   simp only [Option.map_some] at h
   cases hL : σL[i]? with
   | none =>
     rw [hL] at h
     simp at h; subst h
     refine .inl ⟨hi,hs,.inl ?_⟩
     rcases Nat.lt_or_ge i σL.length with h1 | h1
     · rw [List.getElem?_eq_getElem h1] at hL; cases hL
     · exact h1
   | some l =>
     rw [hL] at h
     cases hl : l.live with
     | true => simp [hl] at h; subst h; exact .inl ⟨hi,hs,.inr ⟨l,rfl,hl⟩⟩
     | false => simp [hl] at h; subst h; exact .inr ⟨_,ho,rfl,.inl ⟨AL hL,l,rfl,hl⟩⟩
 · rw [List.getElem?_eq_none hi] at h
   simp only [Option.map_none] at h
   obtain ⟨o,h1,h2⟩ := Option.map_eq_some_iff.1 h
   exact .inr ⟨o,h1,h2.symm,.inr hi⟩
theorem Sg {e : List Nat} {σL σ' : List AObj} {i : Nat} (he : P6 e σL = true) (ht : ∀ u x,RelV hz (fun i => if i < σL.length then φ i else none) u x → RelV hz' φ' u (effO e x)) (hl1 : σL.length ≤ σ'.length)
    (hB : (i < σL.length ∧ ∃ l,σL[i]? = some l ∧ l.live = false) ∨ σ'.length ≤ i) :
    (φ i = some none → (fun i => if i < σ'.length then φ' i else φ i) i = some none) ∧
    (∀ g c,φ i = some (some (g,c)) → ∃ c',(fun i => if i < σ'.length then φ' i else φ i) i = some (some (g,c')) ∧ (c ≤ maxLen → c' = c)) := by
 rcases hB with ⟨hi,l,hl,hd⟩ | hi
 · have hne : ¬ e.contains (2 * i) = true := by
     intro hc
     obtain ⟨o,ho,hol⟩ := effIn_get he _ hc
     rw [show 2 * i / 2 = i by omega,hl] at ho; cases ho
     rw [hd] at hol; cases hol
   have hne' : ¬ e.contains (2 * i + 1) = true := by
    intro hc
    obtain ⟨o,ho,hol⟩ := effIn_get he _ hc
    rw [show (2 * i + 1) / 2 = i by omega,hl] at ho; cases ho
    rw [hd] at hol; cases hol
   have hlt : i < σ'.length := Nat.lt_of_lt_of_le hi hl1
   have keep : ∀ off,effO e (.ptr i off) = .ptr i off := by
    intro off
    simp only [effO]; rw [if_neg hne]
   have keepR : ∀ n,effO e (.row i n) = .row i n := by
    intro off
    simp only [effO]; rw [if_neg hne']
   refine ⟨fun h => ?_,fun g c h => ?_⟩
   · have := ht (.slice none 0 0) (.row i 0) (.rowNil i none (by simp [hi,h]))
     rw [keepR] at this
     cases this with
     | rowNil _ _ h' => simp [hlt]; exact h'
   · have := ht (.pointer (some ⟨g,0,none⟩)) (.ptr i 0) (.ptr i 0 g c (by simp [hi,h]))
     rw [keep] at this
     cases this with
     | ptr _ _ _ c' h' =>
       refine ⟨c',by simp [hlt]; exact h',fun hc => ?_⟩
       have h2 := ht (.slice (some ⟨g,0,none⟩) 0 c) (.row i 0) (.row i 0 g c (by simp [hi,h]) (Nat.zero_le _) hc)
       rw [keepR] at h2
       cases h2 with
       | row _ _ _ _ h3 _ _ => rw [h'] at h3; simpa using h3
       | rowNil _ _ h3 => rw [h'] at h3; cases h3
 · exact ⟨fun h => by simp [Nat.not_lt.2 hi,h],fun g c h => ⟨c,by simp [Nat.not_lt.2 hi,h],fun _ => rfl⟩⟩
theorem Mem.glue {e : List Nat} {σL σ' : List AObj} (hM : Mem E hz φ σ w) (hσ : ∀ (i : Nat) (o : AObj),σL[i]? = some o → o.live = true → σ[i]? = some o) (hl1 : σL.length ≤ σ'.length) (hl2 : σ'.length ≤ σ.length)
    (he : P6 e σL = true)
    (hM' : Mem ⟨w,hz,fun g => ∃ i o c,σL[i]? = some o ∧ o.live = true ∧ φ i = some (some (g,c))⟩ hz' φ' σ' w')
    (ht : ∀ u x,RelV hz (fun i => if i < σL.length then φ i else none) u x → RelV hz' φ' u (effO e x))
    (hb' : Nb σ'.length σ' = true)
    (hfree : ∀ (i : Nat) (o : AObj),σ[i]? = some o → o.noM σL.length σ'.length = true) :
    Mem E hz' (fun i => if i < σ'.length then φ' i else φ i) (overlay (over σL σ') (σ.map (effA e))) w' := by
 have hle : Hp.le hz hz' := hM'.hle
 have hlt : ∀ (i : Nat) (o : AObj) (g c : Nat),σ[i]? = some o → o.live = true → φ i = some (some (g,c)) → g < w.heap.size ∧ hz g = none := by
  intro i o g c hi hl hp
  exact hM.at_lt hi hl hp
 have hown : ∀ (i : Nat) (o : AObj) (g c : Nat),σ[i]? = some o → o.live = true → φ i = some (some (g,c)) → ((i < σL.length ∧ ∃ l,σL[i]? = some l ∧ l.live = false) ∨ σ'.length ≤ i) →
     ¬ ∃ i o c,σL[i]? = some o ∧ o.live = true ∧ φ i = some (some (g,c)) := by
  rintro i o g c hi hl hp hB ⟨j,oj,c',hj,lj,pj⟩
  have := hM.inj i j o oj g c c' hi (hσ j oj hj lj) hl lj hp pj
  subst this
  rcases hB with ⟨_,l,h1,h2⟩ | h1
  · rw [hj] at h1; cases h1; rw [lj] at h2; cases h2
  · have := AL hj; omega
 have hzn : ∀ (i : Nat) (o : AObj) (g c : Nat),σ[i]? = some o → o.live = true → φ i = some (some (g,c)) → ((i < σL.length ∧ ∃ l,σL[i]? = some l ∧ l.live = false) ∨ σ'.length ≤ i) →
     w'.heap[g]? = w.heap[g]? ∧ hz' g = none := by
  intro i o g c hi hl hp hB
  obtain ⟨h1,h2⟩ := hlt i o g c hi hl hp
  have h3 := hown i o g c hi hl hp hB
  refine ⟨hM'.kept g h1 h3,?_⟩
  cases hq : hz' g with
  | none => rfl
  | some x =>
    rcases hM'.hnew g x hq with h | h | h
    · have h : hz g = some x := h
      rw [h2] at h; cases h
    · exact absurd h1 (Nat.not_lt.2 h)
    · exact absurd h h3
 have hwhere : ∀ (i : Nat) (o : AObj) (g c' : Nat),σ[i]? = some o → o.live = true → ((i < σL.length ∧ ∃ l,σL[i]? = some l ∧ l.live = false) ∨ σ'.length ≤ i) →
     (fun i => if i < σ'.length then φ' i else φ i) i = some (some (g,c')) → ∃ c,φ i = some (some (g,c)) := by
  intro i o g c' hi hl hB hp
  obtain ⟨b1,b2⟩ := Sg he ht hl1 hB
  have ho := hM.objs i o hi
  have : φ i = some none ∨ ∃ g c,φ i = some (some (g,c)) := by
   rcases ho.place hl with h | ⟨g,c,_,h,_⟩
   · exact .inl h
   · exact .inr ⟨g,c,h⟩
  rcases this with h | ⟨g',c,h⟩
  · rw [b1 h] at hp; cases hp
  · obtain ⟨c2,h2,_⟩ := b2 g' c h
    rw [h2] at hp; cases hp
    exact ⟨c,h⟩
 exact
 { knows := hM'.knows
   objs := fun i o' hi => by
    rcases glue_get hi hl2 with ⟨h1,h2,h3⟩ | ⟨o,h1,rfl,hB⟩
    · have ho := hM'.objs i o' h2
      have hob := Mc hb' h2
      have hp : (fun i => if i < σ'.length then φ' i else φ i) i = φ' i := by simp [h1]
      cases o' with
      | blk t cs =>
        obtain ⟨g,c,arr,e1,e2,e3,e4,e5⟩ := ho
        exact ⟨g,c,arr,hp.trans e1,e2,e3,fun j x hj => (e4 j x hj).cong (GF (by simpa [AObj.inB] using hob) hj) (fun i hi => by simp [hi]),e5⟩
      | dblk t cs =>
        obtain ⟨g,c,arr,e1,e2⟩ := ho
        exact ⟨g,c,arr,hp.trans e1,e2⟩
      | row e sz cs =>
        rcases ho with ⟨e1,e2⟩ | ⟨g,cap,arr,fr,e1,e2⟩
        · exact .inl ⟨hp.trans e1,e2⟩
        · exact .inr ⟨g,cap,arr,fr,hp.trans e1,e2⟩
      | mark =>
        obtain ⟨g,c,e1,e2⟩ := ho
        exact ⟨g,c,hp.trans e1,e2⟩
      | loop ps a b n ks vs st pd =>
        obtain ⟨g,c,r,e1,e2,e3,e4,e5⟩ := ho
        exact ⟨g,c,r,hp.trans e1,e2,e3,fun j t x hk hj => (let ⟨v,a1,a2⟩ := e4 j t x hk hj; ⟨v,a1,a2.cong (GF (by simpa [AObj.inB] using hob) hj) (fun i hi => by simp [hi])⟩),e5⟩
      | mp ks vs =>
        obtain ⟨g,c,es,cl,e1,e2,e3,e4,e5,e6,e7⟩ := ho
        exact ⟨g,c,es,cl,hp.trans e1,e2,e3,e4,e5,fun j x hj => (let ⟨e,a1,a2⟩ := e6 j x hj; ⟨e,a1,a2.cong (GF (by simpa [AObj.inB] using hob) hj) (fun i hi => by simp [hi])⟩),e7⟩
      | dmp ag l =>
        obtain ⟨g,c,es,cl,e1,e2⟩ := ho
        exact ⟨g,c,es,cl,hp.trans e1,e2⟩
      | dead => trivial
      | ghost v x => exact RelV.cong ho (by simpa [AObj.inB] using hob) (fun i hi => by simp [hi])
    · have ho := hM.objs i o h1
      obtain ⟨b1,b2⟩ := Sg he ht hl1 hB
      have hfr := hfree i o h1
      cases o with
      | blk t cs =>
        obtain ⟨g,c,arr,e1,e2,e3,e4,e5⟩ := ho
        obtain ⟨c',p1,_⟩ := b2 g c e1
        obtain ⟨k1,k2⟩ := hzn i _ g c h1 rfl e1 hB
        refine ⟨g,c',arr,p1,k1.trans e2,by rw [Ds]; exact e3,?_,k2⟩
        intro j y hy
        obtain ⟨x,hx,rfl⟩ := FB hy
        exact Q5 hle hl1 ht (e4 j x hx) (Jd (by simpa [AObj.noM] using hfr) hx)
      | dblk t cs =>
        obtain ⟨g,c,arr,e1,e2,e3,e4,e5⟩ := ho
        obtain ⟨c',p1,_⟩ := b2 g c e1
        obtain ⟨k1,k2⟩ := hzn i _ g c h1 rfl e1 hB
        exact ⟨g,c',arr,p1,k1.trans e2,e3,fun j x hj => (e4 j x hj).mono hle,k2⟩
      | row e' sz cs =>
        show ObjRel hz' (fun i => if i < σ'.length then φ' i else φ i) w' i (.row e' sz cs)
        · rcases ho with ⟨e1,e2⟩ | ⟨g,cap,arr,fr,e1,e2,e3,e4,e5,e6,e7,e8⟩
          · exact .inl ⟨b1 e1,e2⟩
          · obtain ⟨c',p1,p2⟩ := b2 g cap e1
            have := p2 e4; subst this
            obtain ⟨k1,k2⟩ := hzn i _ g _ h1 rfl e1 hB
            exact .inr ⟨g,_,arr,fr,p1,k1.trans e2,e3,e4,e5,e6,fun j x hj => (e7 j x hj).mono hle,k2⟩
      | mark =>
        obtain ⟨g,c,e1,e2,e5⟩ := ho
        obtain ⟨c',p1,_⟩ := b2 g c e1
        obtain ⟨k1,k2⟩ := hzn i _ g c h1 rfl e1 hB
        exact ⟨g,c',p1,k1.trans e2,k2⟩
      | loop ps a b n ks vs st pd =>
        obtain ⟨g,c,r,e1,e2,e3,e4,e5⟩ := ho
        obtain ⟨c',p1,_⟩ := b2 g c e1
        obtain ⟨k1,k2⟩ := hzn i _ g c h1 rfl e1 hB
        refine ⟨g,c',r,p1,k1.trans e2,e3,?_,k2⟩
        intro j t y hk hy
        obtain ⟨x,hx,rfl⟩ := FB hy
        obtain ⟨v,a1,a2⟩ := e4 j t x hk hx
        exact ⟨v,a1,Q5 hle hl1 ht a2 (Jd (by simpa [AObj.noM] using hfr) hx)⟩
      | mp ks vs =>
        obtain ⟨g,c,es,cl,e1,e2,e3,e4,e5,e6,e7⟩ := ho
        obtain ⟨c',p1,_⟩ := b2 g c e1
        obtain ⟨k1,k2⟩ := hzn i _ g c h1 rfl e1 hB
        refine ⟨g,c',es,cl,p1,k1.trans e2,e3,by rw [Ds]; exact e4,fun j k hk => (let ⟨e,a1,a2⟩ := e5 j k hk; ⟨e,a1,a2.mono hle⟩),?_,k2⟩
        intro j y hy
        obtain ⟨x,hx,rfl⟩ := FB hy
        obtain ⟨e,a1,a2⟩ := e6 j x hx
        exact ⟨e,a1,Q5 hle hl1 ht a2 (Jd (by simpa [AObj.noM] using hfr) hx)⟩
      | dmp ag l =>
        obtain ⟨g,c,es,cl,e1,e2,e3,e4,e5⟩ := ho
        obtain ⟨c',p1,_⟩ := b2 g c e1
        obtain ⟨k1,k2⟩ := hzn i _ g c h1 rfl e1 hB
        exact ⟨g,c',es,cl,p1,k1.trans e2,e3,fun j p hp => (let ⟨e,a1,a2,a3⟩ := e4 j p hp; ⟨e,a1,a2.mono hle,a3.mono hle⟩),k2⟩
      | dead => trivial
      | ghost v x => exact Q5 hle hl1 ht ho (by simpa [AObj.noM] using hfr)
   inj := fun i j oi oj g c c' hi hj li lj pi pj => by
    rcases glue_get hi hl2 with ⟨h1,h2,h3⟩ | ⟨o,h1,rfl,hB⟩ <;> rcases glue_get hj hl2 with ⟨k1,k2,k3⟩ | ⟨o2,k1,rfl,kB⟩
    · simp [h1] at pi
      simp [k1] at pj
      exact hM'.inj i j oi oj g c c' h2 k2 li lj pi pj
    · exfalso
      rw [effA_live] at lj
      obtain ⟨c2,q⟩ := hwhere j o2 g c' k1 lj kB pj
      simp [h1] at pi
      rcases hM'.new i oi g c h2 li pi with h | h
      · exact absurd (hlt j o2 g c2 k1 lj q).1 (Nat.not_lt.2 h)
      · exact hown j o2 g c2 k1 lj q kB h
    · exfalso
      rw [effA_live] at li
      obtain ⟨c2,q⟩ := hwhere i o g c h1 li hB pi
      simp [k1] at pj
      rcases hM'.new j oj g c' k2 lj pj with h | h
      · exact absurd (hlt i o g c2 h1 li q).1 (Nat.not_lt.2 h)
      · exact hown i o g c2 h1 li q hB h
    · rw [effA_live] at li lj
      obtain ⟨c2,q⟩ := hwhere i o g c h1 li hB pi
      obtain ⟨c3,q3⟩ := hwhere j o2 g c' k1 lj kB pj
      exact hM.inj i j o o2 g c2 c3 h1 k1 li lj q q3
   new := fun i o' g c hi li pi => by
    rcases glue_get hi hl2 with ⟨h1,h2,h3⟩ | ⟨o,h1,rfl,hB⟩
    · simp [h1] at pi
      rcases hM'.new i o' g c h2 li pi with h | ⟨j,oj,c',hj,lj,pj⟩
      · exact .inl (Nat.le_trans hM.size h)
      · exact hM.new j oj g c' (hσ j oj hj lj) lj pj
    · rw [effA_live] at li
      obtain ⟨c2,q⟩ := hwhere i o g c h1 li hB pi
      exact hM.new i o g c2 h1 li q
   dom := fun i hi => by
    rw [Io,List.length_map] at hi
    simp [Nat.not_lt.2 (Nat.le_trans hl2 hi)]
    exact hM.dom i hi
   caps := fun i g c hi => by
    split at hi
    · exact hM'.caps i g c hi
    · exact hM.caps i g c hi
   os := hM'.os.trans hM.os,tape := hM'.tape.trans hM.tape,output := hM'.output.trans hM.output
   size := Nat.le_trans hM.size hM'.size
   kept := fun k h1 h2 => by
    have hk : k < w.heap.size := Nat.lt_of_lt_of_le h1 hM.size
    refine (hM'.kept k hk ?_).trans (hM.kept k h1 h2)
    rintro ⟨j,oj,c',hj,lj,pj⟩
    rcases hM.new j oj k c' (hσ j oj hj lj) lj pj with h | h
    · omega
    · exact h2 h
   hle := Hp.le_trans hM.hle hle
   hnew := fun g o hg => by
    rcases hM'.hnew g o hg with h | h | ⟨j,oj,c',hj,lj,pj⟩
    · exact hM.hnew g o h
    · exact .inr (.inl (Nat.le_trans hM.size h))
    · exact .inr (hM.new j oj g c' (hσ j oj hj lj) lj pj) }
end
end Go.Ab
