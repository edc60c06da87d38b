/- Values out of parts; rows: literals, make, append, []byte(s), string(b); slices; lengths. -/
import Derived.Test.YtgldclhdieafkaaGreatAbStep3
import Derived.Laws.BytesArg
namespace Go.Ab
open Go.RowKit
def Mt (place : Nat → Option (Nat × Nat)) (cells : List PV) : List (Nat × PV) → Option (List PV)
 | [] => some cells
 | (i,v) :: rest =>
   match place i,v.cells with
   | some (off,size),some vs =>
     if vs.length = size && Jh vs && (off + vs.length ≤ cells.length) then Mt place (setCs cells off vs) rest else none
   | _,_ => none
def IV (P : Program) (fields : List Field) : Option (List (Nat × Nat)) :=
 match fields with
 | [] => some []
 | f :: l => match P.info? f.type,IV P l with
   | some i,some r => some ((f.offset,i.size) :: r)
   | _,_ => none
def Rk (P : Program) (T : TypeId) (parts : List (Nat × PV)) (σ : List AObj) : Option Out :=
 match P.underlying T,P.info? T with
 | some (.struct fields),some info =>
   match info.zero,IV P fields.toList with
   | some z,some places =>
     match H3 z.cells.toList with
     | some cs => match Mt (places[·]?) cs parts with
       | some out => some ⟨.agg out,σ,none,[]⟩
       | none => none
     | none => none
   | _,_ => none
 | _,_ => none
section
variable {P : Program} {E : Entry} {w : World} {hz : Hp} {φ : Phi} {σ : List AObj}
theorem QT (new : List Value) : ∀ (off k : Nat) (cells : Array Value),off + k + new.length ≤ cells.size →
    ((new.zipIdx k).foldl (fun cs (x : Value × Nat) => cs.setIfInBounds (off + x.2) x.1) cells) = (cells.toList.take (off + k) ++ new ++ cells.toList.drop (off + k + new.length)).toArray := by
 induction new with
 | nil => intro off k cells _; simp
 | cons v rest ih =>
   intro off k cells h
   simp only [List.length_cons] at h
   rw [List.zipIdx_cons,List.foldl_cons,ih off (k + 1) _ (by simp; omega)]
   have e := list_seg_step cells.toList (off + k) v rest (by simp; omega)
   simpa [Array.toList_setIfInBounds,Nat.add_assoc] using e
theorem Lk {place : Nat → Option (Nat × Nat)} : ∀ (parts : List (Nat × PV)) (vals : List (Nat × Value)) (arr : Array Value) (cs out : List PV),
    vals.length = parts.length → (∀ (j : Nat) (p : Nat × PV),parts[j]? = some p → ∃ v,vals[j]? = some (p.1,v) ∧ RelV hz φ v p.2) →
    arr.size = cs.length → G8 hz φ arr cs → Mt place cs parts = some out →
    ∃ arr',Instr.fill place arr vals = some arr' ∧ arr'.size = out.length ∧ G8 hz φ arr' out
 | [],vals,arr,cs,out,hl,_,hs,hr,h => by
   have : vals = [] := List.eq_nil_of_length_eq_zero (by simpa using hl)
   subst this
   simp [Mt] at h; subst h
   exact ⟨arr,rfl,hs,hr⟩
 | (i,x) :: parts,vals,arr,cs,out,hl,hv,hs,hr,h => by
   cases vals with
   | nil => simp at hl
   | cons y vals =>
   obtain ⟨v,hv0,hrel⟩ := hv 0 (i,x) rfl
   simp at hv0; subst hv0
   simp only [Mt] at h
   split at h
   · rename_i off size vs hp hc
     split at h
     · rename_i hcond
       simp at hcond
       obtain ⟨⟨h1,h2⟩,h3⟩ := hcond
       obtain ⟨c1,c2,c3⟩ := relV_cells hrel hc h2
       have hsz : v.cells.size = size := by omega
       have hfit : off + v.cells.size ≤ arr.size := by omega
       have hnext := MP h3 hs c1 hr c2
       have hfold := QT v.cells.toList off 0 arr (by simp; omega)
       obtain ⟨arr',e1,e2,e3⟩ := Lk parts vals _ (setCs cs off vs) out (by simpa using hl) (fun j p hj => by simpa using hv (j + 1) p (by simpa using hj))
        (by rw [Iv h3]; simp; omega) hnext h
       refine ⟨arr',?_,e2,e3⟩
       simp only [Instr.fill,hp,hsz]
       rw [if_neg (by simp; omega)]
       rw [← e1]
       congr 1
       rw [← Array.foldl_toList,Array.toList_zipIdx]
       simpa using hfold
     · cases h
   · cases h
theorem J8 : ∀ (fields : List Field) (places : List (Nat × Nat)),IV P fields = some places →
    (fields.mapM (m := Sem) fun f => do pure (f.offset,← sizeOf f.type)).run P w = .ok places w
 | [],places,h => by simp [IV] at h; subst h; rfl
 | f :: l,places,h => by
   simp only [IV] at h
   split at h
   · rename_i i r hi hr
     simp at h; subst h
     have h1 : (do pure (f.offset,← sizeOf f.type) : Sem (Nat × Nat)).run P w = .ok (f.offset,i.size) w := by simp [sizeOf,typeInfo,hi]
     rw [List.mapM_cons,Sem.run_bind,h1]
     simp only [Result.andThen_ok]
     rw [Sem.run_bind,J8 l r hr]
     rfl
   · cases h
theorem aBuild_good {T : TypeId} {parts : List (Nat × PV)} {vals : Array (Nat × Value)} {out : Out} (hM : Mem E hz φ σ w) (hl : vals.toList.length = parts.length)
    (hv : ∀ (j : Nat) (p : Nat × PV),parts[j]? = some p → ∃ v,vals.toList[j]? = some (p.1,v) ∧ RelV hz φ v p.2) (h : Rk P T parts σ = some out) :
    Good P E (do pure (.value (← Instr.build T vals))) w hz φ out := by
 unfold Rk at h
 split at h
 · rename_i fields info hu hi
   split at h
   · rename_i z places hz0 hpl
     split at h
     · rename_i cs hcs
       split at h
       · rename_i o ho
         simp only [Option.some.injEq] at h; subst h
         obtain ⟨h1,h2⟩ := Gc (hz := hz) (φ := φ) hcs
         obtain ⟨arr',e1,e2,e3⟩ := Lk parts vals.toList z.cells cs o hl hv h1 h2 ho
         refine good_v (v := .agg arr') hM ?_ (.agg _ _ e2 e3)
         have hpr := J8 (P := P) (w := w) fields.toList places hpl
         have hpa : (fields.mapM (m := Sem) fun f => do pure (f.offset,← sizeOf f.type)).run P w = .ok places.toArray w := by
          rw [Array.mapM_eq_mapM_toList,map_eq_pure_bind,Sem.run_bind,hpr]
          rfl
         have e1' : Instr.fill (fun x => places.toArray[x]?) z.cells vals.toList = some arr' := by simpa using e1
         have hzv : (zeroValue T).run P w = .ok z w := by simp [zeroValue,typeInfo,hi,hz0]
         unfold Instr.build
         rw [Sem.run_bind,hzv]
         simp only [Result.andThen_ok]
         rw [Sem.run_bind,run_underlying hu]
         simp only [Result.andThen_ok]
         rw [Sem.run_bind,hpa]
         simp only [Result.andThen_ok]
         rw [e1']
         rfl
       · cases h
     · cases h
   · cases h
 · cases h
end
end Go.Ab
