/- Loads, stores, new variables, addresses. -/
import Derived.Test.YtgldclhdieafkaaGreatAbStep1
namespace Go.Ab
open Go.RowKit
section
variable {P : Program} {E : Entry} {w : World} {hz : Hp} {φ : Phi} {σ : List AObj}
theorem PQ {arr : Array Value} {cs xs : List D} {off n : Nat} (h : IZ hz arr cs) (hs : off + n ≤ arr.size) (hx : (cs.drop off).take n = xs) :
    ∀ j x,xs[j]? = some x → RelD hz ((arr.extract off (off + n)).getD j undef) x := by
 intro j x hj
 subst hx
 rw [List.getElem?_take] at hj
 split at hj
 · rename_i hjn
   rw [List.getElem?_drop] at hj
   rw [HU hs hjn]
   exact h _ x hj
 · cases hj
def LoadOk (P : Program) (T : TypeId) (v : Value) (w : World) (hz : Hp) (φ : Phi) (σ : List AObj) (out : Out) : Prop :=
 ∃ u,(Instr.loadAt T v).run P w = .ok u w ∧ RelV hz φ u out.res ∧ out.σ = σ ∧ out.eff = none
theorem JD {T : TypeId} {v u : Value} {res : PV} {obl : List Prop} (h : (Instr.loadAt T v).run P w = .ok u w) (hr : RelV hz φ u res) : LoadOk P T v w hz φ σ ⟨res,σ,none,obl⟩ := ⟨u,h,hr,rfl,rfl⟩
theorem dLoad_good {T : TypeId} {desc : TypeDesc} {info : TypeInfo} {g off : Nat} {t : TypeId} {fr : Nat × Nat} {arr : Array Value} {cs : List D} {orc : Orc} {out : Out} (_hM : Mem E hz φ σ w)
    (hu : P.underlying T = some desc) (hi : P.info? T = some info) (hg : w.heap[g]? = some (.cells arr t fr)) (hl : cs.length ≤ arr.size) (hw : orc = .no → arr.size = cs.length) (hr : IZ hz arr cs)
    (h : P8 info.size (isAggD desc) cs off σ orc = some out) (ho : ∀ p ∈ out.obl,p) :
    LoadOk P T (.pointer (some ⟨g,off,none⟩)) w hz φ σ out := by
 unfold P8 at h
 split at h
 · split at h
   · cases h
   · rename_i ha
     simp at h; subst h
     have hx := ho _ (List.mem_singleton.2 rfl)
     have hlt : off < arr.size := Nat.lt_of_lt_of_le (AL hx) hl
     refine JD (Ie hu hi hg (by simp [ha,hlt])) ?_
     simp only [ha]
     exact .d (hr off _ hx)
 · split at h
   · rename_i xs ha
     simp at h; subst h
     obtain ⟨hn',hx⟩ := ho _ (List.mem_singleton.2 rfl)
     have hn : xs.length = info.size := by rw [← hx]; simp; omega
     have hlt : off + info.size ≤ arr.size := by omega
     refine JD (Ie hu hi hg (by simp [ha,hlt])) ?_
     simp only [ha,if_true]
     refine .agg _ _ (by simp [hn]; omega) ?_
     intro j y hy
     rw [List.getElem?_map] at hy
     cases hq : xs[j]? with
     | none => rw [hq] at hy; cases hy
     | some z =>
       rw [hq] at hy; simp at hy; subst hy
       exact .d (PQ hr hlt hx j z hq)
   · cases h
 · split at h
   · rename_i ha
     simp at ha
     simp at h; subst h
     obtain ⟨ha,rfl⟩ := ha
     have hn := ho _ (List.mem_singleton.2 rfl)
     have hs := hw rfl
     refine JD (Ie hu hi hg (by simp [ha]; omega)) ?_
     simp only [ha,if_true]
     refine .dagg _ _ (by simp; omega) ?_
     intro j x hj
     have hjl := AL hj
     rw [HU (by omega) (by omega)]
     simpa using hr j x hj
   · cases h
 · cases h
theorem aLoad_ok {T : TypeId} {x : PV} {v : Value} {orc : Orc} {out : Out} (hM : Mem E hz φ σ w) (hx : RelV hz φ v x) (h : OX P T x σ orc = some out) (ho : ∀ p ∈ out.obl,p) :
    LoadOk P T v w hz φ σ out := by
 unfold OX at h
 split at h
 · rename_i desc info i off hu hi
   cases hx with
   | ptr _ _ g c hp =>
   split at h
   · rename_i t cs hs
     obtain ⟨g',c',arr,h1,h2,h3,h4,h5⟩ := hM.objs _ _ hs
     rw [hp] at h1; simp at h1; obtain ⟨rfl,rfl⟩ := h1
     split at h
     · rename_i ha
       split at h
       · rename_i hlen
         simp only [Option.some.injEq] at h; subst h
         have hsz : info.size ≤ cs.length - off := by simp at hlen; omega
         by_cases h0 : off + info.size ≤ arr.size
         · refine JD (Ie hu hi h2 (by simp [ha,h0])) ?_
           simp only [ha,if_true]
           refine .agg _ _ (by simp; omega) ?_
           intro j y hj
           rw [List.getElem?_take] at hj
           split at hj
           · rename_i hjn
             rw [List.getElem?_drop] at hj
             rw [HU h0 hjn]
             exact h4 _ y hj
           · cases hj
         · have hz0 : info.size = 0 := by omega
           refine JD (u := .agg #[]) ?_ ?_
           · simp only [Instr.loadAt,Instr.sureAddr,Sem.run_bind,Sem.run_pure,Result.andThen_ok]
             rw [IQ hu hi,if_pos ha,hz0]
             rfl
           · rw [hz0]
             exact .agg _ _ (by simp) (fun j y hj => by simp at hj)
       · cases h
     · rename_i ha
       split at h
       · rename_i y hy
         simp only [Option.some.injEq] at h; subst h
         have hlt : off < arr.size := by rw [h3]; exact AL hy
         refine JD (Ie hu hi h2 (by simp [ha,hlt])) ?_
         simp only [ha]
         exact h4 off y hy
       · cases h
   · rename_i t cs hs
     obtain ⟨g',c',arr,h1,h2,h3,h4,h5⟩ := hM.objs _ _ hs
     rw [hp] at h1; simp at h1; obtain ⟨rfl,rfl⟩ := h1
     exact dLoad_good hM hu hi h2 (by omega) (fun _ => h3) h4 h ho
   · rename_i e sz cs hs
     rcases hM.objs _ _ hs with ⟨h1,_⟩ | ⟨g',cap,arr,fr,h1,h2,h3,h4,h5,h6,h7,h8⟩
     · rw [hp] at h1; simp at h1
     · rw [hp] at h1; simp at h1; obtain ⟨rfl,rfl⟩ := h1
       split at h
       · cases h
       · rename_i hno
         exact dLoad_good hM hu hi h2 h6 (fun e => absurd (by rw [e]; rfl) hno) h7 h ho
   · cases h
 · rename_i desc info cs hu hi
   cases hx with
   | pp g off _ arr e fr f hg hx hr =>
   have hg' := hM.knows _ _ hg
   split at h
   · rename_i ha
     split at h
     · rename_i hlen
       simp only [Option.some.injEq] at h; subst h
       have hsz : info.size ≤ cs.length := by simp at hlen; omega
       by_cases h0 : info.size = 0
       · refine JD (u := .agg #[]) ?_ ?_
         · simp only [Instr.loadAt,Instr.sureAddr,Sem.run_bind,Sem.run_pure,Result.andThen_ok]
           rw [IQ hu hi,if_pos ha,h0]
           rfl
         · rw [h0]
           exact .agg _ _ (by simp) (fun j y hj => by simp at hj)
       · have hlt : off + info.size ≤ arr.size := by
           have := hx (info.size - 1) cs[info.size - 1] (List.getElem?_eq_getElem (by omega))
           have := (Array.getElem?_eq_some_iff.1 this).1
           omega
         refine JD (Ie hu hi hg' (by simp [ha,hlt])) ?_
         simp only [ha,if_true]
         refine .agg _ _ (by simp; omega) ?_
         intro j y hj
         rw [List.getElem?_map,List.getElem?_take] at hj
         split at hj
         · rename_i hjn
           cases hq : cs[j]? with
           | none => rw [hq] at hj; cases hj
           | some z =>
             rw [hq] at hj; simp at hj; subst hj
             rw [HU hlt hjn]
             have e1 := hx j z hq
             have e2 := hr j z hq
             simp only [Array.getD_eq_getD_getElem?,e1,Option.getD_some]
             exact .d e2
         · simp at hj
     · cases h
   · rename_i ha
     split at h
     · rename_i y rest
       simp only [Option.some.injEq] at h; subst h
       have e1 := hx 0 y rfl
       have e2 := hr 0 y rfl
       have hlt : off < arr.size := (Array.getElem?_eq_some_iff.1 e1).1
       refine JD (Ie hu hi hg' (by simp [ha,hlt])) ?_
       simp only [ha]
       simp only [Nat.add_zero] at e1
       simp only [Array.getD_eq_getD_getElem?,e1,Option.getD_some]
       exact .d e2
     · cases h
 · cases h
theorem aLoad_good {T : TypeId} {x : PV} {v : Value} {orc : Orc} {out : Out} (hM : Mem E hz φ σ w) (hx : RelV hz φ v x) (h : OX P T x σ orc = some out) (ho : ∀ p ∈ out.obl,p) :
    Good P E (do pure (.value (← Instr.loadAt T v))) w hz φ out := by
 obtain ⟨u,h1,h2,h3,h4⟩ := aLoad_ok hM hx h ho
 obtain ⟨res,σ',eff,obl⟩ := out
 simp at h3 h4
 subst h3 h4
 exact good_v hM h1 h2
def setCs {α : Type} (cs : List α) (off : Nat) (vs : List α) : List α :=
 match vs with
 | [x] => cs.set off x
 | _ => cs.take off ++ vs ++ cs.drop (off + vs.length)
theorem setCs_get {α : Type} {cs vs : List α} {off : Nat} (h : off + vs.length ≤ cs.length) (j : Nat) :
    (setCs cs off vs)[j]? = if off ≤ j ∧ j < off + vs.length then vs[j - off]? else cs[j]? := by
 have gen : (cs.take off ++ vs ++ cs.drop (off + vs.length))[j]? = if off ≤ j ∧ j < off + vs.length then vs[j - off]? else cs[j]? := by
  by_cases h1 : j < off
  · rw [if_neg (by omega),List.append_assoc,List.getElem?_append_left (by simp; omega),List.getElem?_take,if_pos h1]
  · by_cases h2 : j < off + vs.length
    · rw [if_pos ⟨by omega,h2⟩,List.getElem?_append_left (by simp; omega),List.getElem?_append_right (by simp; omega)]
      simp only [List.length_take]
      congr 1; omega
    · rw [if_neg (by omega),List.getElem?_append_right (by simp; omega),List.getElem?_drop]
      congr 1; simp; omega
 unfold setCs
 split
 · rename_i x
   rw [List.getElem?_set]
   simp only [List.length_cons,List.length_nil] at h ⊢
   by_cases e : off = j
   · subst e; rw [if_pos rfl,if_pos (by omega),if_pos (by omega)]; simp
   · rw [if_neg e,if_neg (by omega)]
 · exact gen
theorem Iv {α : Type} {cs vs : List α} {off : Nat} (h : off + vs.length ≤ cs.length) : (setCs cs off vs).length = cs.length := by
 unfold setCs
 split
 · simp
 · simp; omega
def Rd (P : Program) (T : TypeId) (x v : PV) (σ : List AObj) : Option Out :=
 match P.info? T,x with
 | some info,.ptr i off =>
   match σ[i]?,v with
   | some (.dblk t cs),.dagg ds => if off = 0 then some ⟨.undef,σ.set i (.dblk t ds),none,[ds.length = info.size,cs.length = info.size]⟩ else none
   | some o,v =>
     match v.cells with
     | some vs =>
       if vs.length = info.size && Jh vs then
        match o with
        | .blk t cs => if off + vs.length ≤ cs.length then some ⟨.undef,σ.set i (.blk t (setCs cs off vs)),none,[]⟩ else none
        | .dblk t cs => match toDs vs with
          | some ds => some ⟨.undef,σ.set i (.dblk t (setCs cs off ds)),none,[off + ds.length ≤ cs.length]⟩
          | none => none
        | .row e sz cs => match toDs vs with
          | some ds => some ⟨.undef,σ.set i (.row e sz (setCs cs off ds)),none,[off + ds.length ≤ cs.length]⟩
          | none => none
        | _ => none
       else none
     | none => none
   | _,_ => none
 | _,_ => none
theorem MP {arr new : Array Value} {cs vs : List PV} {off : Nat} (hl : off + vs.length ≤ cs.length) (hs : arr.size = cs.length) (hn : new.size = vs.length) (h1 : G8 hz φ arr cs) (h2 : G8 hz φ new vs) :
    G8 hz φ (arr.toList.take off ++ new.toList ++ arr.toList.drop (off + new.size)).toArray (setCs cs off vs) := by
 intro j x hj
 have e : (arr.toList.take off ++ new.toList ++ arr.toList.drop (off + new.size)) = setCs arr.toList off new.toList := by
  unfold setCs
  split
  · rename_i y hy
    have hs1 : new.size = 1 := by rw [← Array.length_toList,hy]; rfl
    rw [hy,hs1,List.set_eq_take_append_cons_drop,if_pos (by simp; omega)]
    simp
  · simp
 rw [e]
 rw [setCs_get hl] at hj
 have hg := setCs_get (cs := arr.toList) (vs := new.toList) (off := off) (by simp; omega) j
 simp only [Array.length_toList,hn] at hg
 simp only [Array.getD_eq_getD_getElem?,List.getElem?_toArray,hg]
 split at hj
 · rename_i hc
   rw [if_pos hc]
   simpa [Array.getD_eq_getD_getElem?] using h2 _ x hj
 · rename_i hc
   rw [if_neg hc]
   simpa [Array.getD_eq_getD_getElem?] using h1 _ x hj
theorem relD_store {arr new : Array Value} {cs ds : List D} {off : Nat} (hl : off + ds.length ≤ cs.length) (hs : cs.length ≤ arr.size) (hn : new.size = ds.length) (h1 : IZ hz arr cs) (h2 : IZ hz new ds) :
    IZ hz (arr.toList.take off ++ new.toList ++ arr.toList.drop (off + new.size)).toArray (setCs cs off ds) := by
 intro j x hj
 have e : (arr.toList.take off ++ new.toList ++ arr.toList.drop (off + new.size)) = setCs arr.toList off new.toList := by
  unfold setCs
  split
  · rename_i y hy
    have hs1 : new.size = 1 := by rw [← Array.length_toList,hy]; rfl
    rw [hy,hs1,List.set_eq_take_append_cons_drop,if_pos (by simp; omega)]
    simp
  · simp
 rw [e]
 rw [setCs_get hl] at hj
 have hg := setCs_get (cs := arr.toList) (vs := new.toList) (off := off) (by simp; omega) j
 simp only [Array.length_toList,hn] at hg
 simp only [Array.getD_eq_getD_getElem?,List.getElem?_toArray,hg]
 split at hj
 · rename_i hc
   rw [if_pos hc]
   simpa [Array.getD_eq_getD_getElem?] using h2 _ x hj
 · rename_i hc
   rw [if_neg hc]
   simpa [Array.getD_eq_getD_getElem?] using h1 _ x hj
theorem good_skip {s : Sem Unit} {w' : World} {σ' : List AObj} {obl : List Prop} (h : s.run P w = .ok () w') (hM : Mem E hz φ σ' w') :
    Good P E (do s; pure .skip) w hz φ ⟨.undef,σ',none,obl⟩ :=
 ⟨_,Go.undef,w',hz,φ,by rw [Sem.run_bind,h]; rfl,.inr ⟨rfl,rfl⟩,hM,.undef _,fun _ _ h => h⟩
theorem JA {T : TypeId} {info : TypeInfo} (hi : P.info? T = some info) {v : Value} (hs : v.cells.size = info.size) {g off : Nat} {t : TypeId} {fr : Nat × Nat} {arr : Array Value} (hg : w.heap[g]? = some (.cells arr t fr))
    (hf : ∀ j,j < arr.size → ¬ (fr.1 ≤ j ∧ j < fr.2)) (hl : off + v.cells.size ≤ arr.size) (h1 : ∀ u ∈ v.cells.toList,u.oneCell' = true) :
    (Instr.storeAt T (.pointer (some ⟨g,off,none⟩)) v).run P w = .ok () (w.setRow g (arr.toList.take off ++ v.cells.toList ++ arr.toList.drop (off + v.cells.size)).toArray) := by
 simp only [Instr.storeAt,Instr.sureAddr,Sem.run_bind,Sem.run_pure,Result.andThen_ok]
 exact LV hi v hs g off t fr arr w hg hf hl h1
theorem OT {T : TypeId} {x y : PV} {u v : Value} {out : Out} (hM : Mem E hz φ σ w) (hx : RelV hz φ u x) (hy : RelV hz φ v y) (h : Rd P T x y σ = some out) (ho : ∀ p ∈ out.obl,p) :
    Good P E (do Instr.storeAt T u v; pure .skip) w hz φ out := by
 unfold Rd at h
 split at h
 · rename_i info i off hi
   cases hx with
   | ptr _ _ g c hp =>
   split at h
   · rename_i t cs ds hs
     split at h
     · rename_i h0
       subst h0
       simp only [Option.some.injEq] at h; subst h
       have o1 : ds.length = info.size := ho _ (by simp)
       have o2 : cs.length = info.size := ho _ (by simp)
       obtain ⟨g',c',arr,h1,h2,h3,h4,h5⟩ := hM.objs _ _ hs
       rw [hp] at h1; simp at h1; obtain ⟨rfl,rfl⟩ := h1
       cases hy with
       | dagg new _ hn hr =>
       have one : ∀ u ∈ new.toList,u.oneCell' = true := by
        intro u hu
        obtain ⟨j,hj,rfl⟩ := List.getElem_of_mem hu
        have hj' : j < new.size := by simpa using hj
        have hjl : j < ds.length := by omega
        have := Jb (RelV.d (φ := φ) (hr j ds[j] (List.getElem?_eq_getElem hjl))) rfl
        simpa [hj'] using this
       refine good_skip (JA hi (v := .agg new) (by simp [Value.cells]; omega) h2 (by simp) (by simp [Value.cells]; omega) one) ?_
       refine hM.write hs rfl rfl hp (fun k hk => setRow_other w g k _ hk) (by simp) rfl rfl rfl ?_
       refine ⟨g,c,_,hp,setRow_heap w g arr _ t _ h2,?_,?_,h5⟩
       · simp [Value.cells]; omega
       · intro j x hj
         have hjl := AL hj
         have hjn : j < new.size := by omega
         have e := hr j x hj
         have : (arr.toList.take 0 ++ new.toList ++ arr.toList.drop (0 + new.size)) = new.toList := by
          simp; omega
         show RelD hz ((arr.toList.take 0 ++ new.toList ++ arr.toList.drop (0 + new.size)).toArray.getD j Go.undef) x
         rw [this]
         simpa using e
     · cases h
   · rename_i o _ hs _
     split at h
     · rename_i vs hv
       split at h
       · rename_i hc
         simp at hc
         obtain ⟨hsz,hall⟩ := hc
         obtain ⟨c1,c2,c3⟩ := relV_cells hy hv hall
         split at h
         · rename_i t cs _
           split at h
           · rename_i hfit
             simp only [Option.some.injEq] at h; subst h
             obtain ⟨g',c',arr,h1,h2,h3,h4,h5⟩ := hM.objs _ _ hs
             rw [hp] at h1; simp at h1; obtain ⟨rfl,rfl⟩ := h1
             refine good_skip (JA hi (by omega) h2 (by simp) (by omega) c3) ?_
             refine hM.write hs rfl rfl hp (fun k hk => setRow_other w g k _ hk) (by simp) rfl rfl rfl ?_
             refine ⟨g,c,_,hp,setRow_heap w g arr _ t _ h2,?_,MP hfit h3 c1 h4 c2,h5⟩
             rw [Iv hfit]
             simp; omega
           · cases h
         · rename_i t cs _
           split at h
           · rename_i ds hds
             simp only [Option.some.injEq] at h; subst h
             have hfit : off + ds.length ≤ cs.length := ho _ (by simp)
             have hdl := (toDs_get hds).1
             obtain ⟨g',c',arr,h1,h2,h3,h4,h5⟩ := hM.objs _ _ hs
             rw [hp] at h1; simp at h1; obtain ⟨rfl,rfl⟩ := h1
             refine good_skip (JA hi (by omega) h2 (by simp) (by omega) c3) ?_
             refine hM.write hs rfl rfl hp (fun k hk => setRow_other w g k _ hk) (by simp) rfl rfl rfl ?_
             refine ⟨g,c,_,hp,setRow_heap w g arr _ t _ h2,?_,relD_store hfit (by omega) (by omega) h4 (relCells_ds c2 hds),h5⟩
             rw [Iv hfit]
             simp; omega
           · cases h
         · rename_i e sz cs _
           split at h
           · rename_i ds hds
             simp only [Option.some.injEq] at h; subst h
             have hfit : off + ds.length ≤ cs.length := ho _ (by simp)
             have hdl := (toDs_get hds).1
             rcases hM.objs _ _ hs with ⟨h1,_⟩ | ⟨g',cap,arr,fr,h1,h2,h3,h4,h5,h6,h7,h8⟩
             · rw [hp] at h1; simp at h1
             rw [hp] at h1; simp at h1; obtain ⟨rfl,rfl⟩ := h1
             refine good_skip (JA hi (by omega) h2 h3 (by omega) c3) ?_
             refine hM.write hs rfl rfl hp (fun k hk => setRow_other w g k _ hk) (by simp) rfl rfl rfl ?_
             have hsame : (arr.toList.take off ++ v.cells.toList ++ arr.toList.drop (off + v.cells.size)).toArray.size = arr.size := by simp; omega
             refine .inr ⟨g,c,_,fr,hp,setRow_heap w g arr _ e _ h2,?_,h4,by rw [hsame]; exact h5,?_,relD_store hfit (by omega) (by omega) h7 (relCells_ds c2 hds),h8⟩
             · rw [hsame]; exact h3
             · rw [Iv hfit,hsame]; exact h6
           · cases h
         · cases h
       · cases h
     · cases h
   · cases h
 · cases h
end
end Go.Ab
