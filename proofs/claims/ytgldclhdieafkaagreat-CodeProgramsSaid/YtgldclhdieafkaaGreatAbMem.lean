/- Memory: a new block, a block that is written, a row that moves, a row that is settled. -/
import Derived.Test.YtgldclhdieafkaaGreatAbOps
import Derived.Laws.OwnMore
namespace Go.Ab
open Go.RowKit
theorem Hr (w : World) (o : Obj) {g : Nat} (h : g < w.heap.size) : (w.alloc o).heap[g]? = w.heap[g]? := Below.heap_alloc w o g h
theorem Fl (w : World) (o : Obj) : (w.alloc o).heap[w.heap.size]? = some o := heap_alloc_new w o
theorem lt_of_get {w : World} {g : Nat} {o : Obj} (h : w.heap[g]? = some o) : g < w.heap.size := (Array.getElem?_eq_some_iff.1 h).1
theorem AL {α : Type} {l : List α} {i : Nat} {x : α} (h : l[i]? = some x) : i < l.length := (List.getElem?_eq_some_iff.1 h).1
def Phi.set (φ : Phi) (i : Nat) (x : Option (Option (Nat × Nat))) : Phi := fun j => if j = i then x else φ j
theorem Phi.set_same (φ : Phi) (i : Nat) (x : Option (Option (Nat × Nat))) : φ.set i x i = x := by simp [Phi.set]
theorem Phi.set_other (φ : Phi) {i j : Nat} (x : Option (Option (Nat × Nat))) (h : j ≠ i) : φ.set i x j = φ j := by simp [Phi.set,h]
mutual
def PV.sub (i : Nat) (r : Nat → PV) : PV → PV
 | .d x => .d x
 | .ptr j off => if j = i then .undef else .ptr j off
 | .row j n => if j = i then r n else .row j n
 | .view j off n => if j = i then .undef else .view j off n
 | .yld j => if j = i then .undef else .yld j
 | .mapv j => if j = i then .undef else .mapv j
 | .pp cs => .pp cs
 | .fn f a b => .fn f (PV.subs i r a) (PV.subs i r b)
 | .agg cs => .agg (PV.subs i r cs)
 | .dagg cs => .dagg cs
 | .tup cs => .tup (PV.subs i r cs)
 | .undef => .undef
def PV.subs (i : Nat) (r : Nat → PV) : List PV → List PV
 | [] => []
 | x :: l => PV.sub i r x :: PV.subs i r l
end
theorem Ox (i : Nat) (r : Nat → PV) : ∀ l,PV.subs i r l = l.map (PV.sub i r)
 | [] => rfl
 | x :: l => by simp [PV.subs,Ox i r l]
theorem Jy {i : Nat} {r : Nat → PV} {l : List PV} {j : Nat} {y : PV} (h : (PV.subs i r l)[j]? = some y) : ∃ x,l[j]? = some x ∧ y = x.sub i r := by
 rw [Ox,List.getElem?_map] at h
 cases hx : l[j]? with
 | none => rw [hx] at h; cases h
 | some x => rw [hx] at h; exact ⟨x,rfl,by simpa using h.symm⟩
theorem Id (i : Nat) (r : Nat → PV) (l : List PV) : (PV.subs i r l).length = l.length := by rw [Ox]; simp
theorem RelV.sub {hz hz' : Hp} {φ φ' : Phi} {i : Nat} {r : Nat → PV} (hl : Hp.le hz hz') (hφ : ∀ j x,j ≠ i → φ j = some x → φ' j = some x)
    (hr : ∀ n v,RelV hz φ v (.row i n) → RelV hz' φ' v (r n)) {v : Value} {x : PV} (h : RelV hz φ v x) : RelV hz' φ' v (x.sub i r) := by
 induction h with
 | d h => exact .d (h.mono hl)
 | ptr j off g c h =>
   by_cases e : j = i
   · simp only [PV.sub,e,if_true]; exact .undef _
   · simp only [PV.sub,e,if_false]; exact .ptr j off g c (hφ _ _ e h)
 | row j n g cap h hn hm =>
   by_cases e : j = i
   · subst e; simp only [PV.sub,if_true]; exact hr _ _ (.row j n g cap h hn hm)
   · simp only [PV.sub,e,if_false]; exact .row j n g cap (hφ _ _ e h) hn hm
 | rowNil j a h =>
   by_cases e : j = i
   · subst e; simp only [PV.sub,if_true]; exact hr _ _ (.rowNil j a h)
   · simp only [PV.sub,e,if_false]; exact .rowNil j a (hφ _ _ e h)
 | view j off n g c cap h hn hm =>
   by_cases e : j = i
   · simp only [PV.sub,e,if_true]; exact .undef _
   · simp only [PV.sub,e,if_false]; exact .view j off n g c cap (hφ _ _ e h) hn hm
 | viewNil j off a h =>
   by_cases e : j = i
   · simp only [PV.sub,e,if_true]; exact .undef _
   · simp only [PV.sub,e,if_false]; exact .viewNil j off a (hφ _ _ e h)
 | yld j l c h =>
   by_cases e : j = i
   · simp only [PV.sub,e,if_true]; exact .undef _
   · simp only [PV.sub,e,if_false]; exact .yld j l c (hφ _ _ e h)
 | mapv j g c h =>
   by_cases e : j = i
   · simp only [PV.sub,e,if_true]; exact .undef _
   · simp only [PV.sub,e,if_false]; exact .mapv j g c (hφ _ _ e h)
 | pp g off cs arr e fr f hg hx hr => exact .pp g off cs arr e fr f (hl _ _ hg) hx (fun j x hj => (hr j x hj).mono hl)
 | fn f a b c d h1 h2 _ _ i1 i2 =>
   refine .fn f a b _ _ (by rw [Id]; exact h1) (by rw [Id]; exact h2) ?_ ?_
   · intro j y hy; obtain ⟨x,hx,rfl⟩ := Jy hy; exact i1 j x hx
   · intro j y hy; obtain ⟨x,hx,rfl⟩ := Jy hy; exact i2 j x hx
 | agg cs cs' h _ ih =>
   refine .agg cs _ (by rw [Id]; exact h) ?_
   intro j y hy; obtain ⟨x,hx,rfl⟩ := Jy hy; exact ih j x hx
 | dagg cs cs' h r => exact .dagg cs cs' h (fun j x hj => (r j x hj).mono hl)
 | tup cs cs' h _ ih =>
   refine .tup cs _ (by rw [Id]; exact h) ?_
   intro j y hy; obtain ⟨x,hx,rfl⟩ := Jy hy; exact ih j x hx
 | undef v => exact .undef v
def AObj.sub (i : Nat) (r : Nat → PV) : AObj → AObj
 | .blk t cs => .blk t (PV.subs i r cs)
 | .loop ps a b n ks vs st pd => .loop ps a b n ks (PV.subs i r vs) st pd
 | .mp ks vs => .mp ks (PV.subs i r vs)
 | .ghost v x => .ghost v (x.sub i r)
 | o => o
section
variable {E : Entry} {hz hz' : Hp} {φ φ' : Phi} {σ : List AObj} {w w' : World}
theorem IZ.mono {arr : Array Value} {cs : List D} (h : IZ hz arr cs) (hl : Hp.le hz hz') : IZ hz' arr cs := fun j x hj => (h j x hj).mono hl
theorem RelE.mono {ag : Bool} {v : Value} {cs : List D} (h : RelE hz ag v cs) (hl : Hp.le hz hz') : RelE hz' ag v cs := by
 unfold RelE at *
 cases ag
 · obtain ⟨x,h1,h2⟩ := h; exact ⟨x,h1,h2.mono hl⟩
 · obtain ⟨arr,h1,h2,h3⟩ := h; exact ⟨arr,h1,h2,h3.mono hl⟩
theorem ObjRel.place {i : Nat} {o : AObj} (h : ObjRel hz φ w i o) (hl : o.live = true) : (φ i = some none) ∨ ∃ g c O,φ i = some (some (g,c)) ∧ w.heap[g]? = some O ∧ hz g = none := by
 cases o with
 | blk t cs => obtain ⟨g,c,arr,h1,h2,h3,h4,h5⟩ := h; exact .inr ⟨g,c,_,h1,h2,h5⟩
 | dblk t cs => obtain ⟨g,c,arr,h1,h2,h3,h4,h5⟩ := h; exact .inr ⟨g,c,_,h1,h2,h5⟩
 | row e sz cs =>
   rcases h with ⟨h1,h2⟩ | ⟨g,cap,arr,fr,h1,h2,h3,h4,h5,h6,h7,h8⟩
   · exact .inl h1
   · exact .inr ⟨g,cap,_,h1,h2,h8⟩
 | mark => obtain ⟨g,c,h1,h2,h3⟩ := h; exact .inr ⟨g,c,_,h1,h2,h3⟩
 | loop ps a b n ks vs st pd => obtain ⟨g,c,r,h1,h2,h3,h4,h5⟩ := h; exact .inr ⟨g,c,_,h1,h2,h5⟩
 | mp ks vs => obtain ⟨g,c,es,cl,h1,h2,h3,h4,h5,h6,h7⟩ := h; exact .inr ⟨g,c,_,h1,h2,h7⟩
 | dmp ag l => obtain ⟨g,c,es,cl,h1,h2,h3,h4,h5⟩ := h; exact .inr ⟨g,c,_,h1,h2,h5⟩
 | dead => cases hl
 | ghost v x => cases hl
theorem ObjRel.tr {i : Nat} {o : AObj} (h : ObjRel hz φ w i o) (hl : Hp.le hz hz') (hφ : Phi.le φ φ')
    (hg : ∀ g c,φ i = some (some (g,c)) → o.live = true → w.heap[g]? ≠ none → hz g = none → w'.heap[g]? = w.heap[g]? ∧ hz' g = none) : ObjRel hz' φ' w' i o := by
 cases o with
 | blk t cs =>
   obtain ⟨g,c,arr,h1,h2,h3,h4,h5⟩ := h
   obtain ⟨e1,e2⟩ := hg g c h1 rfl (by rw [h2]; simp) h5
   exact ⟨g,c,arr,hφ _ _ h1,e1.trans h2,h3,fun j x hj => (h4 j x hj).mono hl hφ,e2⟩
 | dblk t cs =>
   obtain ⟨g,c,arr,h1,h2,h3,h4,h5⟩ := h
   obtain ⟨e1,e2⟩ := hg g c h1 rfl (by rw [h2]; simp) h5
   exact ⟨g,c,arr,hφ _ _ h1,e1.trans h2,h3,fun j x hj => (h4 j x hj).mono hl,e2⟩
 | row e sz cs =>
   rcases h with ⟨h1,h2⟩ | ⟨g,cap,arr,fr,h1,h2,h3,h4,h5,h6,h7,h8⟩
   · exact .inl ⟨hφ _ _ h1,h2⟩
   · obtain ⟨e1,e2⟩ := hg g cap h1 rfl (by rw [h2]; simp) h8
     exact .inr ⟨g,cap,arr,fr,hφ _ _ h1,e1.trans h2,h3,h4,h5,h6,fun j x hj => (h7 j x hj).mono hl,e2⟩
 | mark =>
   obtain ⟨g,c,h1,h2,h3⟩ := h
   obtain ⟨e1,e2⟩ := hg g c h1 rfl (by rw [h2]; simp) h3
   exact ⟨g,c,hφ _ _ h1,e1.trans h2,e2⟩
 | loop ps a b n ks vs st pd =>
   obtain ⟨g,c,r,h1,h2,h3,h4,h5⟩ := h
   obtain ⟨e1,e2⟩ := hg g c h1 rfl (by rw [h2]; simp) h5
   exact ⟨g,c,r,hφ _ _ h1,e1.trans h2,h3,fun j t x hk hv => (let ⟨v,a1,a2⟩ := h4 j t x hk hv; ⟨v,a1,a2.mono hl hφ⟩),e2⟩
 | mp ks vs =>
   obtain ⟨g,c,es,cl,h1,h2,h3,h4,h5,h6,h7⟩ := h
   obtain ⟨e1,e2⟩ := hg g c h1 rfl (by rw [h2]; simp) h7
   exact ⟨g,c,es,cl,hφ _ _ h1,e1.trans h2,h3,h4,fun j k hk => (let ⟨e,a1,a2⟩ := h5 j k hk; ⟨e,a1,a2.mono hl⟩),fun j x hx => (let ⟨e,a1,a2⟩ := h6 j x hx; ⟨e,a1,a2.mono hl hφ⟩),e2⟩
 | dmp ag es' =>
   obtain ⟨g,c,es,cl,h1,h2,h3,h4,h5⟩ := h
   obtain ⟨e1,e2⟩ := hg g c h1 rfl (by rw [h2]; simp) h5
   exact ⟨g,c,es,cl,hφ _ _ h1,e1.trans h2,h3,fun j p hp => (let ⟨e,a1,a2,a3⟩ := h4 j p hp; ⟨e,a1,a2.mono hl,a3.mono hl⟩),e2⟩
 | dead => trivial
 | ghost v x => exact RelV.mono hl hφ h
theorem Mem.same (hM : Mem E hz φ σ w) (h : w'.heap = w.heap) (h1 : w'.os = w.os) (h2 : w'.tape = w.tape) (h3 : w'.output = w.output) : Mem E hz φ σ w' :=
 { knows := fun g o x => by rw [h]; exact hM.knows g o x
   objs := fun i o x => (hM.objs i o x).tr (Hp.le_refl _) (Phi.le_refl _) (fun g _ _ _ _ hn => ⟨by rw [h],hn⟩)
   inj := hM.inj,new := hM.new,dom := hM.dom,caps := hM.caps
   os := h1.trans hM.os,tape := h2.trans hM.tape,output := h3.trans hM.output
   size := by rw [h]; exact hM.size
   kept := fun k a b => by rw [h]; exact hM.kept k a b
   hle := hM.hle,hnew := hM.hnew }
theorem Mem.alloc (hM : Mem E hz φ σ w) (O : Obj) (c : Nat) (hc : c ≤ maxLen) (o : AObj)
    (ho : ∀ φ',Phi.le φ φ' → φ' σ.length = some (some (w.heap.size,c)) → ObjRel hz φ' (w.alloc O) σ.length o) :
    ∃ φ',Phi.le φ φ' ∧ φ' σ.length = some (some (w.heap.size,c)) ∧ Mem E hz φ' (σ ++ [o]) (w.alloc O) := by
 have hle : Phi.le φ (φ.set σ.length (some (some (w.heap.size,c)))) := by
  intro i r hi
  by_cases e : i = σ.length
  · subst e; rw [hM.dom _ (Nat.le_refl _)] at hi; cases hi
  · rw [Phi.set_other _ _ e]; exact hi
 refine ⟨φ.set σ.length (some (some (w.heap.size,c))),hle,Phi.set_same _ _ _,?_⟩
 have hget : ∀ i x,(σ ++ [o])[i]? = some x → (i < σ.length ∧ σ[i]? = some x) ∨ (i = σ.length ∧ x = o) := by
  intro i x hx
  rcases Nat.lt_or_ge i σ.length with hi | hi
  · rw [List.getElem?_append_left hi] at hx; exact .inl ⟨hi,hx⟩
  · rw [List.getElem?_append_right hi] at hx
    have : i - σ.length = 0 := by
     rcases Nat.eq_zero_or_pos (i - σ.length) with h0 | h0
     · exact h0
     · rw [List.getElem?_eq_none (by simp; omega)] at hx; cases hx
    rw [this] at hx
    simp at hx
    exact .inr ⟨by omega,hx.symm⟩
 have hlt : ∀ i x g c',σ[i]? = some x → x.live = true → φ i = some (some (g,c')) → g < w.heap.size := by
  intro i x g c' hx hl hp
  rcases (hM.objs i x hx).place hl with h1 | ⟨g',c2,O',h1,h2,_⟩
  · rw [hp] at h1; cases h1
  · rw [hp] at h1; cases h1; exact lt_of_get h2
 exact
 { knows := fun g o x => by
     have := hM.knows g o x
     rw [Hr w O (lt_of_get this)]; exact this
   objs := fun i x hx => by
    rcases hget i x hx with ⟨hi,hx⟩ | ⟨rfl,rfl⟩
    · exact (hM.objs i x hx).tr (Hp.le_refl _) hle (fun g c' h1 hl _ hn => ⟨Hr w O (hlt i x g c' hx hl h1),hn⟩)
    · exact ho _ hle (Phi.set_same _ _ _)
   inj := fun i j oi oj g c1 c2 hi hj li lj pi pj => by
    rcases hget i oi hi with ⟨hi',hi2⟩ | ⟨ei,ei2⟩ <;> rcases hget j oj hj with ⟨hj',hj2⟩ | ⟨ej,ej2⟩
    · rw [Phi.set_other _ _ (by omega)] at pi pj
      exact hM.inj i j oi oj g c1 c2 hi2 hj2 li lj pi pj
    · rw [Phi.set_other _ _ (by omega)] at pi
      rw [ej,Phi.set_same] at pj
      have := hlt i oi g c1 hi2 li pi
      simp at pj; omega
    · rw [Phi.set_other _ _ (by omega)] at pj
      rw [ei,Phi.set_same] at pi
      have := hlt j oj g c2 hj2 lj pj
      simp at pi; omega
    · rw [ei,ej]
   new := fun i x g c1 hx hl hp => by
    rcases hget i x hx with ⟨hi',hx⟩ | ⟨rfl,rfl⟩
    · rw [Phi.set_other _ _ (by omega)] at hp
      exact hM.new i x g c1 hx hl hp
    · rw [Phi.set_same] at hp
      simp at hp
      exact .inl (by rw [← hp.1]; exact hM.size)
   dom := fun i hi => by
    simp at hi
    rw [Phi.set_other _ _ (by omega)]
    exact hM.dom i (by omega)
   caps := fun i g c' hi => by
    by_cases e : i = σ.length
    · rw [e,Phi.set_same] at hi; simp at hi; omega
    · rw [Phi.set_other _ _ e] at hi; exact hM.caps i g c' hi
   os := hM.os,tape := hM.tape,output := hM.output
   size := Nat.le_trans hM.size (by simp)
   kept := fun k a b => by rw [Hr w O (Nat.lt_of_lt_of_le a hM.size)]; exact hM.kept k a b
   hle := hM.hle,hnew := hM.hnew }
theorem Mem.at_lt (hM : Mem E hz φ σ w) {i : Nat} {x : AObj} {g c' : Nat} (hx : σ[i]? = some x) (hl : x.live = true) (hp : φ i = some (some (g,c'))) : g < w.heap.size ∧ hz g = none := by
 rcases (hM.objs i x hx).place hl with h1 | ⟨g',c2,O',h1,h2,h3⟩
 · rw [hp] at h1; cases h1
 · rw [hp] at h1; cases h1; exact ⟨lt_of_get h2,h3⟩
theorem Mem.write (hM : Mem E hz φ σ w) {i g c : Nat} {o o' : AObj} (hi : σ[i]? = some o) (hl : o.live = true) (hl' : o'.live = true) (hp : φ i = some (some (g,c)))
    (hb : ∀ k,k ≠ g → w'.heap[k]? = w.heap[k]?) (hs : w'.heap.size = w.heap.size) (h1 : w'.os = w.os) (h2 : w'.tape = w.tape) (h3 : w'.output = w.output)
    (ho : ObjRel hz φ w' i o') : Mem E hz φ (σ.set i o') w' := by
 have hg := hM.at_lt hi hl hp
 have hne : ∀ k o,hz k = some o → k ≠ g := fun k o hk e => by subst e; rw [hg.2] at hk; cases hk
 have hget : ∀ j x,(σ.set i o')[j]? = some x → (j = i ∧ x = o') ∨ (j ≠ i ∧ σ[j]? = some x) := by
  intro j x hx
  rw [List.getElem?_set] at hx
  split at hx
  · rename_i e; subst e
    split at hx
    · exact .inl ⟨rfl,by simpa using hx.symm⟩
    · cases hx
  · rename_i e; exact .inr ⟨fun h => e h.symm,hx⟩
 have hlive : ∀ (j : Nat) (x : AObj),(σ.set i o')[j]? = some x → x.live = true → ∃ y : AObj,σ[j]? = some y ∧ y.live = true := by
  intro j x hx hlx
  rcases hget j x hx with ⟨rfl,rfl⟩ | ⟨_,hx⟩
  · exact ⟨o,hi,hl⟩
  · exact ⟨x,hx,hlx⟩
 exact
 { knows := fun k o hk => by rw [hb k (hne k o hk)]; exact hM.knows k o hk
   objs := fun j x hx => by
    rcases hget j x hx with ⟨rfl,rfl⟩ | ⟨hne',hx⟩
    · exact ho
    · refine (hM.objs j x hx).tr (Hp.le_refl _) (Phi.le_refl _) (fun k c' hk hlx _ hn => ⟨hb k ?_,hn⟩)
      rintro rfl
      exact hne' (hM.inj j i x o k c' c hx hi hlx hl hk hp)
   inj := fun a b oa ob k c1 c2 ha hb' la lb pa pb => by
    obtain ⟨ya,ya1,ya2⟩ := hlive a oa ha la
    obtain ⟨yb,yb1,yb2⟩ := hlive b ob hb' lb
    exact hM.inj a b ya yb k c1 c2 ya1 yb1 ya2 yb2 pa pb
   new := fun a x k c1 ha la pa => by
    obtain ⟨ya,ya1,ya2⟩ := hlive a x ha la
    exact hM.new a ya k c1 ya1 ya2 pa
   dom := fun j hj => hM.dom j (by simpa using hj)
   caps := hM.caps
   os := h1.trans hM.os,tape := h2.trans hM.tape,output := h3.trans hM.output
   size := by rw [hs]; exact hM.size
   kept := fun k a b => by
    rw [hb k ?_]
    · exact hM.kept k a b
    · rintro rfl
      rcases hM.new i o k c hi hl hp with h | h
      · omega
      · exact b h
   hle := hM.hle,hnew := hM.hnew }
theorem sub_live (i : Nat) (r : Nat → PV) (o : AObj) : (o.sub i r).live = o.live := by cases o <;> rfl
theorem ObjRel.put {i j : Nat} {o : AObj} {r : Nat → PV} (h : ObjRel hz φ w j o) (hj : j ≠ i) (hl : Hp.le hz hz') (hφ : ∀ j x,j ≠ i → φ j = some x → φ' j = some x)
    (hr : ∀ n v,RelV hz φ v (.row i n) → RelV hz' φ' v (r n))
    (hg : ∀ g c,φ j = some (some (g,c)) → o.live = true → w.heap[g]? ≠ none → hz g = none → w'.heap[g]? = w.heap[g]? ∧ hz' g = none) : ObjRel hz' φ' w' j (o.sub i r) := by
 cases o with
 | blk t cs =>
   obtain ⟨g,c,arr,h1,h2,h3,h4,h5⟩ := h
   obtain ⟨e1,e2⟩ := hg g c h1 rfl (by rw [h2]; simp) h5
   refine ⟨g,c,arr,hφ _ _ hj h1,e1.trans h2,by rw [Id]; exact h3,fun k y hy => ?_,e2⟩
   obtain ⟨x,hx,rfl⟩ := Jy hy
   exact (h4 k x hx).sub hl hφ hr
 | dblk t cs =>
   obtain ⟨g,c,arr,h1,h2,h3,h4,h5⟩ := h
   obtain ⟨e1,e2⟩ := hg g c h1 rfl (by rw [h2]; simp) h5
   exact ⟨g,c,arr,hφ _ _ hj h1,e1.trans h2,h3,fun j x hj => (h4 j x hj).mono hl,e2⟩
 | row e sz cs =>
   rcases h with ⟨h1,h2⟩ | ⟨g,cap,arr,fr,h1,h2,h3,h4,h5,h6,h7,h8⟩
   · exact .inl ⟨hφ _ _ hj h1,h2⟩
   · obtain ⟨e1,e2⟩ := hg g cap h1 rfl (by rw [h2]; simp) h8
     exact .inr ⟨g,cap,arr,fr,hφ _ _ hj h1,e1.trans h2,h3,h4,h5,h6,fun j x hj => (h7 j x hj).mono hl,e2⟩
 | mark =>
   obtain ⟨g,c,h1,h2,h3⟩ := h
   obtain ⟨e1,e2⟩ := hg g c h1 rfl (by rw [h2]; simp) h3
   exact ⟨g,c,hφ _ _ hj h1,e1.trans h2,e2⟩
 | loop ps a b n ks vs st pd =>
   obtain ⟨g,c,r,h1,h2,h3,h4,h5⟩ := h
   obtain ⟨e1,e2⟩ := hg g c h1 rfl (by rw [h2]; simp) h5
   refine ⟨g,c,r,hφ _ _ hj h1,e1.trans h2,h3,fun j t y hk hv => ?_,e2⟩
   obtain ⟨x,hx,rfl⟩ := Jy hv
   obtain ⟨v,a1,a2⟩ := h4 j t x hk hx
   exact ⟨v,a1,a2.sub hl hφ hr⟩
 | mp ks vs =>
   obtain ⟨g,c,es,cl,h1,h2,h3,h4,h5,h6,h7⟩ := h
   obtain ⟨e1,e2⟩ := hg g c h1 rfl (by rw [h2]; simp) h7
   refine ⟨g,c,es,cl,hφ _ _ hj h1,e1.trans h2,h3,by rw [Id]; exact h4,fun j k hk => (let ⟨e,a1,a2⟩ := h5 j k hk; ⟨e,a1,a2.mono hl⟩),fun j y hy => ?_,e2⟩
   obtain ⟨x,hx,rfl⟩ := Jy hy
   obtain ⟨e,a1,a2⟩ := h6 j x hx
   exact ⟨e,a1,a2.sub hl hφ hr⟩
 | dmp ag es' =>
   obtain ⟨g,c,es,cl,h1,h2,h3,h4,h5⟩ := h
   obtain ⟨e1,e2⟩ := hg g c h1 rfl (by rw [h2]; simp) h5
   exact ⟨g,c,es,cl,hφ _ _ hj h1,e1.trans h2,h3,fun j p hp => (let ⟨e,a1,a2,a3⟩ := h4 j p hp; ⟨e,a1,a2.mono hl,a3.mono hl⟩),e2⟩
 | dead => trivial
 | ghost v x => exact RelV.sub hl hφ hr h
theorem get_set_sub {i j : Nat} {r : Nat → PV} {o' x : AObj} (hx : ((σ.map (AObj.sub i r)).set i o')[j]? = some x) :
    (j = i ∧ x = o') ∨ (j ≠ i ∧ ∃ y,σ[j]? = some y ∧ x = y.sub i r) := by
 rw [List.getElem?_set] at hx
 split at hx
 · rename_i e; subst e
   split at hx
   · exact .inl ⟨rfl,by simpa using hx.symm⟩
   · cases hx
 · rename_i e
   rw [List.getElem?_map] at hx
   cases hy : σ[j]? with
   | none => rw [hy] at hx; cases hx
   | some y => rw [hy] at hx; exact .inr ⟨fun h => e h.symm,y,rfl,by simpa using hx.symm⟩
theorem Mem.move (hM : Mem E hz φ σ w) {i : Nat} {o : AObj} (hi : σ[i]? = some o) (O : Obj) (c : Nat) (hc : c ≤ maxLen) (o' : AObj)
    (ho : ∀ φ',φ' i = some (some (w.heap.size,c)) → ObjRel hz φ' (w.alloc O) i o') :
    ∃ φ',φ' i = some (some (w.heap.size,c)) ∧ (∀ j x,j ≠ i → φ j = some x → φ' j = some x) ∧ Mem E hz φ' ((σ.map (AObj.sub i fun _ => .undef)).set i o') (w.alloc O) := by
 have hφ : ∀ j x,j ≠ i → φ j = some x → φ.set i (some (some (w.heap.size,c))) j = some x := fun j x hj h => by rw [Phi.set_other _ _ hj]; exact h
 refine ⟨φ.set i (some (some (w.heap.size,c))),Phi.set_same _ _ _,hφ,?_⟩
 exact
 { knows := fun g o x => by
     have := hM.knows g o x
     rw [Hr w O (lt_of_get this)]; exact this
   objs := fun j x hx => by
    rcases get_set_sub hx with ⟨rfl,rfl⟩ | ⟨hne,y,hy,rfl⟩
    · exact ho _ (Phi.set_same _ _ _)
    · exact (hM.objs j y hy).put hne (Hp.le_refl _) hφ (fun _ _ _ => .undef _) (fun g c' h1 hl _ hn => ⟨Hr w O (hM.at_lt hy hl h1).1,hn⟩)
   inj := fun a b oa ob g c1 c2 ha hb la lb pa pb => by
    rcases get_set_sub ha with ⟨ea,_⟩ | ⟨na,ya,hya,rfl⟩ <;> rcases get_set_sub hb with ⟨eb,_⟩ | ⟨nb,yb,hyb,rfl⟩
    · rw [ea,eb]
    · rw [Phi.set_other _ _ nb] at pb
      rw [ea,Phi.set_same] at pa
      have := (hM.at_lt hyb (by rw [← sub_live]; exact lb) pb).1
      simp at pa; omega
    · rw [Phi.set_other _ _ na] at pa
      rw [eb,Phi.set_same] at pb
      have := (hM.at_lt hya (by rw [← sub_live]; exact la) pa).1
      simp at pb; omega
    · rw [Phi.set_other _ _ na] at pa
      rw [Phi.set_other _ _ nb] at pb
      exact hM.inj a b ya yb g c1 c2 hya hyb (by rw [← sub_live]; exact la) (by rw [← sub_live]; exact lb) pa pb
   new := fun a x g c1 ha la pa => by
    rcases get_set_sub ha with ⟨ea,_⟩ | ⟨na,ya,hya,rfl⟩
    · rw [ea,Phi.set_same] at pa
      simp at pa
      exact .inl (by rw [← pa.1]; exact hM.size)
    · rw [Phi.set_other _ _ na] at pa
      exact hM.new a ya g c1 hya (by rw [← sub_live]; exact la) pa
   dom := fun j hj => by
    simp at hj
    have := AL hi
    rw [Phi.set_other _ _ (by omega)]
    exact hM.dom j hj
   caps := fun j g c' hj => by
    by_cases e : j = i
    · rw [e,Phi.set_same] at hj; simp at hj; omega
    · rw [Phi.set_other _ _ e] at hj; exact hM.caps j g c' hj
   os := hM.os,tape := hM.tape,output := hM.output
   size := Nat.le_trans hM.size (by simp)
   kept := fun k a b => by rw [Hr w O (Nat.lt_of_lt_of_le a hM.size)]; exact hM.kept k a b
   hle := hM.hle,hnew := hM.hnew }
theorem Mem.writeRow (hM : Mem E hz φ σ w) {i g c : Nat} {o o' : AObj} (hi : σ[i]? = some o) (hl : o.live = true) (hl' : o'.live = true) (hp : φ i = some (some (g,c)))
    (hb : ∀ k,k ≠ g → w'.heap[k]? = w.heap[k]?) (hs : w'.heap.size = w.heap.size) (h1 : w'.os = w.os) (h2 : w'.tape = w.tape) (h3 : w'.output = w.output)
    (ho : ObjRel hz φ w' i o') : Mem E hz φ ((σ.map (AObj.sub i fun _ => .undef)).set i o') w' := by
 have hM' := hM.write hi hl hl' hp hb hs h1 h2 h3 ho
 exact
 { knows := hM'.knows
   objs := fun j x hx => by
    rcases get_set_sub hx with ⟨rfl,rfl⟩ | ⟨hne,y,hy,rfl⟩
    · exact ho
    · have := hM'.objs j y (by rw [List.getElem?_set_ne (fun e => hne e.symm)]; exact hy)
      exact this.put hne (Hp.le_refl _) (fun _ _ _ h => h) (fun _ _ _ => .undef _) (fun g c' h1 hl _ hn => ⟨rfl,hn⟩)
   inj := fun a b oa ob g c1 c2 ha hb la lb pa pb => by
    have fa : ∃ y : AObj,σ[a]? = some y ∧ y.live = true := by
     rcases get_set_sub ha with ⟨ea,_⟩ | ⟨na,ya,hya,rfl⟩
     · rw [ea]; exact ⟨o,hi,hl⟩
     · exact ⟨ya,hya,by rw [← sub_live]; exact la⟩
    have fb : ∃ y : AObj,σ[b]? = some y ∧ y.live = true := by
     rcases get_set_sub hb with ⟨ea,_⟩ | ⟨na,ya,hya,rfl⟩
     · rw [ea]; exact ⟨o,hi,hl⟩
     · exact ⟨ya,hya,by rw [← sub_live]; exact lb⟩
    obtain ⟨ya,ya1,ya2⟩ := fa
    obtain ⟨yb,yb1,yb2⟩ := fb
    exact hM.inj a b ya yb g c1 c2 ya1 yb1 ya2 yb2 pa pb
   new := fun a x g c1 ha la pa => by
    rcases get_set_sub ha with ⟨ea,_⟩ | ⟨na,ya,hya,rfl⟩
    · rw [ea] at pa; exact hM.new i o g c1 hi hl pa
    · exact hM.new a ya g c1 hya (by rw [← sub_live]; exact la) pa
   dom := fun j hj => hM.dom j (by simpa using hj)
   caps := hM.caps
   os := hM'.os,tape := hM'.tape,output := hM'.output,size := hM'.size,kept := hM'.kept,hle := hM'.hle,hnew := hM'.hnew }
theorem Mem.settle (hM : Mem E hz φ σ w) {i : Nat} {e : TypeId} {sz : Nat} {cs : List D} (hi : σ[i]? = some (.row e sz cs)) :
    ∃ hz',Hp.le hz hz' ∧ (∀ n v,RelV hz φ v (.row i n) → RelV hz' φ v (.d (.list false n cs))) ∧
      Mem E hz' φ ((σ.map (AObj.sub i fun n => .d (.list false n cs))).set i .dead) w := by
 have hrow := hM.objs i _ hi
 rcases hrow with ⟨h1,rfl⟩ | ⟨g,cap,arr,fr,h1,h2,h3,h4,h5,h6,h7,h8⟩
 · have hr : ∀ n v,RelV hz φ v (.row i n) → RelV hz φ v (.d (.list false n [])) := by
     intro n v h
     cases h with
     | row _ _ g' cap' hp _ _ => rw [h1] at hp; simp at hp
     | rowNil _ a => exact .d (.list0 a 0 false (fun h => by cases h) (Nat.zero_le _))
   refine ⟨hz,Hp.le_refl _,hr,?_⟩
   exact
   { knows := hM.knows
     objs := fun j x hx => by
      rcases get_set_sub hx with ⟨rfl,rfl⟩ | ⟨hne,y,hy,rfl⟩
      · trivial
      · exact (hM.objs j y hy).put hne (Hp.le_refl _) (fun _ _ _ h => h) hr (fun _ _ _ _ _ hn => ⟨rfl,hn⟩)
     inj := fun a b oa ob g c1 c2 ha hb la lb pa pb => by
      rcases get_set_sub ha with ⟨ea,rfl⟩ | ⟨na,ya,hya,rfl⟩
      · cases la
      rcases get_set_sub hb with ⟨eb,rfl⟩ | ⟨nb,yb,hyb,rfl⟩
      · cases lb
      exact hM.inj a b ya yb g c1 c2 hya hyb (by rw [← sub_live]; exact la) (by rw [← sub_live]; exact lb) pa pb
     new := fun a x g c1 ha la pa => by
      rcases get_set_sub ha with ⟨ea,rfl⟩ | ⟨na,ya,hya,rfl⟩
      · cases la
      exact hM.new a ya g c1 hya (by rw [← sub_live]; exact la) pa
     dom := fun j hj => hM.dom j (by simpa using hj)
     caps := hM.caps
     os := hM.os,tape := hM.tape,output := hM.output,size := hM.size,kept := hM.kept,hle := hM.hle,hnew := hM.hnew }
 · have hle : Hp.le hz (fun k => if k = g then some (.cells arr e fr) else hz k) := by
     intro k o hk
     by_cases ek : k = g
     · subst ek; rw [h8] at hk; cases hk
     · simp [ek,hk]
   have hr : ∀ n v,RelV hz φ v (.row i n) → RelV (fun k => if k = g then some (.cells arr e fr) else hz k) φ v (.d (.list false n cs)) := by
    intro n v h
    cases h with
    | row _ _ g' cap' hp hn hm =>
      rw [h1] at hp
      simp at hp
      obtain ⟨rfl,rfl⟩ := hp
      refine .d (.list g 0 n cap false cs arr e fr (fun j => arr.getD j undef) (by simp) hn hm (fun h => by cases h) ?_ ?_)
      · intro j x hj
        have hj' : j < arr.size := Nat.lt_of_lt_of_le (AL hj) h6
        simp [hj']
      · intro j x hj
        exact (h7 j x hj).mono hle
    | rowNil _ _ hp => rw [h1] at hp; simp at hp
   refine ⟨_,hle,hr,?_⟩
   exact
   { knows := fun k o hk => by
       by_cases ek : k = g
       · subst ek; simp at hk; rw [← hk]; exact h2
       · simp [ek] at hk; exact hM.knows k o hk
     objs := fun j x hx => by
      rcases get_set_sub hx with ⟨rfl,rfl⟩ | ⟨hne,y,hy,rfl⟩
      · trivial
      · refine (hM.objs j y hy).put hne hle (fun _ _ _ h => h) hr (fun k c' hk hl _ hn => ⟨rfl,?_⟩)
        have : k ≠ g := by
         rintro rfl
         exact hne (hM.inj j i y _ k c' cap hy hi hl rfl hk h1)
        simp [this,hn]
     inj := fun a b oa ob g c1 c2 ha hb la lb pa pb => by
      rcases get_set_sub ha with ⟨ea,rfl⟩ | ⟨na,ya,hya,rfl⟩
      · cases la
      rcases get_set_sub hb with ⟨eb,rfl⟩ | ⟨nb,yb,hyb,rfl⟩
      · cases lb
      exact hM.inj a b ya yb g c1 c2 hya hyb (by rw [← sub_live]; exact la) (by rw [← sub_live]; exact lb) pa pb
     new := fun a x g c1 ha la pa => by
      rcases get_set_sub ha with ⟨ea,rfl⟩ | ⟨na,ya,hya,rfl⟩
      · cases la
      exact hM.new a ya g c1 hya (by rw [← sub_live]; exact la) pa
     dom := fun j hj => hM.dom j (by simpa using hj)
     caps := hM.caps
     os := hM.os,tape := hM.tape,output := hM.output,size := hM.size,kept := hM.kept
     hle := Hp.le_trans hM.hle hle
     hnew := fun k o hk => by
      by_cases ek : k = g
      · subst ek; exact .inr (hM.new i _ k cap hi rfl h1)
      · simp [ek] at hk; exact hM.hnew k o hk }
theorem Mem.allocNil (hM : Mem E hz φ σ w) (e : TypeId) (sz : Nat) : ∃ φ',Phi.le φ φ' ∧ φ' σ.length = some none ∧ Mem E hz φ' (σ ++ [.row e sz []]) w := by
 have hle : Phi.le φ (φ.set σ.length (some none)) := by
  intro i r hi
  by_cases e : i = σ.length
  · subst e; rw [hM.dom _ (Nat.le_refl _)] at hi; cases hi
  · rw [Phi.set_other _ _ e]; exact hi
 have hget : ∀ i x,(σ ++ [AObj.row e sz []])[i]? = some x → (i < σ.length ∧ σ[i]? = some x) ∨ (i = σ.length ∧ x = .row e sz []) := by
  intro i x hx
  rcases Nat.lt_or_ge i σ.length with hi | hi
  · rw [List.getElem?_append_left hi] at hx; exact .inl ⟨hi,hx⟩
  · rw [List.getElem?_append_right hi] at hx
    have : i - σ.length = 0 := by
     rcases Nat.eq_zero_or_pos (i - σ.length) with h0 | h0
     · exact h0
     · rw [List.getElem?_eq_none (by simp; omega)] at hx; cases hx
    rw [this] at hx
    simp at hx
    exact .inr ⟨by omega,hx.symm⟩
 have nope : ∀ {g c : Nat},(φ.set σ.length (some none)) σ.length = some (some (g,c)) → False := by
  intro g c h; rw [Phi.set_same] at h; simp at h
 refine ⟨_,hle,Phi.set_same _ _ _,?_⟩
 exact
 { knows := hM.knows
   objs := fun i x hx => by
    rcases hget i x hx with ⟨hi,hx⟩ | ⟨rfl,rfl⟩
    · exact (hM.objs i x hx).tr (Hp.le_refl _) hle (fun g c' _ _ _ hn => ⟨rfl,hn⟩)
    · exact .inl ⟨Phi.set_same _ _ _,rfl⟩
   inj := fun i j oi oj g c1 c2 hi hj li lj pi pj => by
    rcases hget i oi hi with ⟨hi',hi2⟩ | ⟨ei,_⟩
    · rcases hget j oj hj with ⟨hj',hj2⟩ | ⟨ej,_⟩
      · rw [Phi.set_other _ _ (by omega)] at pi pj
        exact hM.inj i j oi oj g c1 c2 hi2 hj2 li lj pi pj
      · rw [ej] at pj; exact (nope pj).elim
    · rw [ei] at pi; exact (nope pi).elim
   new := fun i x g c1 hx hl hp => by
    rcases hget i x hx with ⟨hi',hx⟩ | ⟨ei,_⟩
    · rw [Phi.set_other _ _ (by omega)] at hp
      exact hM.new i x g c1 hx hl hp
    · rw [ei] at hp; exact (nope hp).elim
   dom := fun i hi => by
    simp at hi
    rw [Phi.set_other _ _ (by omega)]
    exact hM.dom i (by omega)
   caps := fun i g c' hi => by
    by_cases e : i = σ.length
    · rw [e] at hi; exact (nope hi).elim
    · rw [Phi.set_other _ _ e] at hi; exact hM.caps i g c' hi
   os := hM.os,tape := hM.tape,output := hM.output,size := hM.size,kept := hM.kept,hle := hM.hle,hnew := hM.hnew }
end
end Go.Ab
