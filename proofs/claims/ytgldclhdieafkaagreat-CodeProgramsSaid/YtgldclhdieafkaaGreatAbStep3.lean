/- New variables; addresses; parts of values; lengths. -/
import Derived.Test.YtgldclhdieafkaaGreatAbStep2
namespace Go.Ab
open Go.RowKit
def H3 : List Value → Option (List PV)
 | [] => some []
 | v :: l => match Kb v,H3 l with | some x,some r => some (x :: r) | _,_ => none
def TN : TypeDesc → Bool
 | .array _ _ => true
 | _ => false
def TJ : List PV → Bool
 | .d .nilF :: _ => true
 | _ => false
def Rl (P : Program) (T : TypeId) (σ : List AObj) : Option Out :=
 match P.info? T,P.underlying T with
 | some info,some desc =>
   match info.zero with
   | some z =>
     match H3 z.cells.toList with
     | some cs =>
       if TN desc && !TJ cs then
        match toDs cs with
        | some ds => some ⟨.ptr σ.length 0,σ ++ [.dblk T ds],none,[]⟩
        | none => none
       else some ⟨.ptr σ.length 0,σ ++ [.blk T cs],none,[]⟩
     | none => none
   | none => none
 | _,_ => none
def aBox (T : TypeId) (v : PV) (σ : List AObj) : Option Out :=
 match v with
 | .dagg ds => some ⟨.ptr σ.length 0,σ ++ [.dblk T ds],none,[]⟩
 | v => match v.cells with
   | some vs => if Jh vs then some ⟨.ptr σ.length 0,σ ++ [.blk T vs],none,[]⟩ else none
   | none => none
def LF (P : Program) (S : TypeId) (x : PV) (f : Nat) (σ : List AObj) : Option Out :=
 match P.underlying S with
 | some (.struct fields) =>
   match fields[f]? with
   | some fld =>
     match P.info? fld.type with
     | some info =>
       if info.size = 0 then none
       else match x with
        | .ptr i off => some ⟨.ptr i (off + fld.offset),σ,none,[]⟩
        | .pp cs => some ⟨.pp (cs.drop fld.offset),σ,none,[]⟩
        | _ => none
     | none => none
   | none => none
 | _ => none
def Rm (sz n : Nat) (xs : List D) (i : Int) (cs : List D) : Prop := 0 ≤ i ∧ i < n ∧ (xs.drop (i.toNat * sz)).take sz = cs
def H9 (i : Int) (n : Nat) : Prop := 0 ≤ i ∧ i < n
def LE (P : Program) (T : TypeId) (x ix : PV) (σ : List AObj) (orc : Orc) : Option Out :=
 match P.underlying T,ix with
 | some (.slice e),.d (.int _ i) =>
   match P.info? e,x,orc with
   | some info,.d (.list _ n xs),.cells cs => some ⟨.pp cs,σ,none,[Rm info.size n xs i cs]⟩
   | some info,.row r n,_ => some ⟨.ptr r (i.toNat * info.size),σ,none,[H9 i n]⟩
   | some info,.view r off n,_ => some ⟨.ptr r (off + i.toNat * info.size),σ,none,[H9 i n]⟩
   | _,_,_ => none
 | some (.array len e),.d (.int _ i) =>
   match P.info? e,x with
   | some info,.ptr r off => some ⟨.ptr r (off + i.toNat * info.size),σ,none,[H9 i len]⟩
   | _,_ => none
 | _,_ => none
section
variable {P : Program} {E : Entry} {w : World} {hz : Hp} {φ : Phi} {σ : List AObj}
theorem LR : ∀ {l : List Value} {cs : List PV},H3 l = some cs → cs.length = l.length ∧ ∀ (j : Nat) (x : PV),cs[j]? = some x → ∃ v,l[j]? = some v ∧ Kb v = some x
 | [],cs,h => by simp [H3] at h; subst h; simp
 | v :: l,cs,h => by
   simp only [H3] at h
   split at h
   · rename_i x r hx hr
     simp at h; subst h
     obtain ⟨h1,h2⟩ := LR hr
     refine ⟨by simp [h1],fun j y hj => ?_⟩
     match j,hj with
     | 0,hj => simp at hj; subst hj; exact ⟨v,rfl,hx⟩
     | j + 1,hj => simpa using h2 j y (by simpa using hj)
   · cases h
theorem Gc {arr : Array Value} {cs : List PV} (h : H3 arr.toList = some cs) : arr.size = cs.length ∧ G8 hz φ arr cs := by
 obtain ⟨h1,h2⟩ := LR h
 refine ⟨by simpa using h1.symm,fun j x hj => ?_⟩
 obtain ⟨v,hv,hx⟩ := h2 j x hj
 have : arr.getD j Go.undef = v := by simp [Array.getD_eq_getD_getElem?] at hv ⊢; simp [hv]
 rw [this]
 exact Ig hx
theorem good_new {s : Sem Value} {O : Obj} {c : Nat} {o : AObj} {res : PV} {v : Value} {w1 : World} (hM : Mem E hz φ σ w) (hw : w1.heap = w.heap ∧ w1.os = w.os ∧ w1.tape = w.tape ∧ w1.output = w.output) (h : s.run P w = .ok v (w1.alloc O))
    (ho : ∀ φ',Phi.le φ φ' → φ' σ.length = some (some (w.heap.size,c)) → ObjRel hz φ' (w1.alloc O) σ.length o) (hr : ∀ φ',φ' σ.length = some (some (w.heap.size,c)) → RelV hz φ' v res) {obl : List Prop} (hcm : c ≤ maxLen := by first | exact Nat.zero_le _ | assumption | (unfold maxLen; omega)) :
    Good P E (do pure (.value (← s))) w hz φ ⟨res,σ ++ [o],none,obl⟩ := by
 have hM1 := hM.same hw.1 hw.2.1 hw.2.2.1 hw.2.2.2
 have hsz : w1.heap.size = w.heap.size := by rw [hw.1]
 obtain ⟨φ',h1,h2,h3⟩ := hM1.alloc O c hcm o (fun φ' a b => ho φ' a (by rw [b,hsz]))
 rw [hsz] at h2
 exact ⟨_,v,w1.alloc O,hz,φ',by rw [Sem.run_bind,h]; rfl,.inl rfl,h3,hr φ' h2,fun u x hx => hx.mono (Hp.le_refl _) h1⟩
theorem OG {w : World} (t : TypeId) {arr : Array Value} {cs : List PV} (h1 : arr.size = cs.length) (h2 : G8 hz φ arr cs) (hn : hz w.heap.size = none) :
    ∀ φ',Phi.le φ φ' → φ' σ.length = some (some (w.heap.size,0)) → ObjRel hz φ' (w.alloc (.cells arr t)) σ.length (.blk t cs) :=
 fun _ hle hp => ⟨w.heap.size,0,arr,hp,Fl w _,h1,fun j x hj => (h2 j x hj).mono (Hp.le_refl _) hle,hn⟩
theorem Pp {w : World} (t : TypeId) {arr : Array Value} {cs : List D} (h1 : arr.size = cs.length) (h2 : IZ hz arr cs) (hn : hz w.heap.size = none) :
    ∀ φ',Phi.le φ φ' → φ' σ.length = some (some (w.heap.size,0)) → ObjRel hz φ' (w.alloc (.cells arr t)) σ.length (.dblk t cs) :=
 fun _ _ hp => ⟨w.heap.size,0,arr,hp,Fl w _,h1,h2,hn⟩
theorem Mem.fresh (hM : Mem E hz φ σ w) : hz w.heap.size = none := by
 cases h : hz w.heap.size with
 | none => rfl
 | some o => have := lt_of_get (hM.knows _ _ h); omega
theorem O3 {T : TypeId} {out : Out} (hM : Mem E hz φ σ w) (h : Rl P T σ = some out) :
    Good P E (do pure (.value (← Instr.alloc T true (.tuple #[])))) w hz φ out := by
 unfold Rl at h
 split at h
 · rename_i info desc hi hu
   split at h
   · rename_i z hz0
     have hrun : (Instr.alloc T true (.tuple #[])).run P w = .ok (.pointer (some ⟨w.heap.size,0,none⟩)) (w.alloc (.cells z.cells T)) := by
      simp [Instr.alloc,zeroValue,typeInfo,hi,hz0,newVar,newRow]
     split at h
     · rename_i cs hcs
       obtain ⟨h1,h2⟩ := Gc (hz := hz) (φ := φ) hcs
       split at h
       · split at h
         · rename_i ds hds
           simp only [Option.some.injEq] at h; subst h
           exact good_new hM ⟨rfl,rfl,rfl,rfl⟩ hrun (Pp T (by rw [h1,(toDs_get hds).1]) (relCells_ds h2 hds) hM.fresh) (fun φ' hp => .ptr _ _ _ _ hp)
         · cases h
       · simp only [Option.some.injEq] at h; subst h
         exact good_new hM ⟨rfl,rfl,rfl,rfl⟩ hrun (OG T h1 h2 hM.fresh) (fun φ' hp => .ptr _ _ _ _ hp)
     · cases h
   · cases h
 · cases h
theorem aBox_good {T : TypeId} {x : PV} {v : Value} {out : Out} (hM : Mem E hz φ σ w) (hx : RelV hz φ v x) (h : aBox T x σ = some out) :
    Good P E (do pure (.value (← Instr.box T v))) w hz φ out := by
 have hrun : (Instr.box T v).run P w = .ok (.pointer (some ⟨w.heap.size,0,none⟩)) (w.alloc (.cells v.cells T)) := by
  simp [Instr.box,newVar,newRow]
 unfold aBox at h
 split at h
 · simp only [Option.some.injEq] at h; subst h
   cases hx with
   | dagg arr _ h1 h2 =>
   exact good_new hM ⟨rfl,rfl,rfl,rfl⟩ hrun (Pp T h1 h2 hM.fresh) (fun φ' hp => .ptr _ _ _ _ hp)
 · split at h
   · rename_i vs hv
     split at h
     · rename_i hall
       simp only [Option.some.injEq] at h; subst h
       obtain ⟨c1,c2,_⟩ := relV_cells hx hv hall
       exact good_new hM ⟨rfl,rfl,rfl,rfl⟩ hrun (OG T c1 c2 hM.fresh) (fun φ' hp => .ptr _ _ _ _ hp)
     · cases h
   · cases h
theorem RelV.pp_drop {g off n : Nat} {cs : List D} (h : RelV hz φ (.pointer (some ⟨g,off,none⟩)) (.pp cs)) : RelV hz φ (.pointer (some ⟨g,off + n,none⟩)) (.pp (cs.drop n)) := by
 cases h with
 | pp _ _ _ arr e fr f hg hx hr =>
 refine .pp g (off + n) _ arr e fr (fun j => f (n + j)) hg (fun j x hj => ?_) (fun j x hj => ?_)
 · rw [List.getElem?_drop] at hj
   have := hx _ x hj
   rwa [← Nat.add_assoc] at this
 · rw [List.getElem?_drop] at hj
   exact hr _ x hj
theorem ME {S : TypeId} {x : PV} {v : Value} {f : Nat} {out : Out} (hM : Mem E hz φ σ w) (hx : RelV hz φ v x) (h : LF P S x f σ = some out) :
    Good P E (do pure (.value (← Instr.fieldAt S v f))) w hz φ out := by
 unfold LF at h
 split at h
 · rename_i fields hu
   split at h
   · rename_i fld hf
     split at h
     · rename_i info hi
       split at h
       · cases h
       · rename_i h0
         have hrun : ∀ g off,(Instr.fieldAt S (.pointer (some ⟨g,off,none⟩)) f).run P w = .ok (.pointer (some ⟨g,off + fld.offset,none⟩)) w := by
          intro g off
          simp [Instr.fieldAt,run_underlying hu,hf,Instr.sureAddr,fieldPlace,sizeOf,typeInfo,hi,h0,GW]
         split at h
         · simp only [Option.some.injEq] at h; subst h
           cases hx with
           | ptr _ _ g c hp => exact good_v hM (hrun _ _) (.ptr _ _ _ _ hp)
         · simp only [Option.some.injEq] at h; subst h
           cases hx with
           | pp g off _ arr e fr ff hg hx hr => exact good_v hM (hrun _ _) (RelV.pp_drop (.pp g off _ arr e fr ff hg hx hr))
         · cases h
     · cases h
   · cases h
 · cases h
theorem MD {T : TypeId} {x ix : PV} {v u : Value} {orc : Orc} {out : Out} (hM : Mem E hz φ σ w) (hx : RelV hz φ v x) (hi : RelV hz φ u ix) (h : LE P T x ix σ orc = some out) (ho : ∀ p ∈ out.obl,p) :
    Good P E (do pure (.value (← Instr.indexAt T v u))) w hz φ out := by
 unfold LE at h
 split at h
 · rename_i e k i hu
   have := hi.inv_int; subst this
   split at h
   · rename_i info tight n xs cs he
     simp only [Option.some.injEq] at h; subst h
     obtain ⟨o1,o2,o3⟩ := ho _ (List.mem_singleton.2 rfl)
     cases hx with
     | d hd =>
     cases hd with
     | list0 a cap _ ht hm => omega
     | list g off _ cap _ _ arr e' fr f hg hn hm ht hx hr =>
     refine good_v (v := .pointer (some ⟨g,off + i.toNat * info.size,none⟩)) hM ?_ ?_
     · simp [Instr.indexAt,asIntOf,run_underlying hu,o1,o2,sizeOf,typeInfo,he,GW]
     · have := RelV.pp_drop (n := i.toNat * info.size) (.pp (φ := φ) g off xs arr e' fr f hg hx hr)
       cases this with
       | pp _ _ _ arr2 e2 fr2 f2 hg2 hx2 hr2 =>
       subst o3
       refine .pp g _ _ arr2 e2 fr2 f2 hg2 (fun j y hj => ?_) (fun j y hj => ?_)
       · rw [List.getElem?_take] at hj
         split at hj
         · exact hx2 j y hj
         · cases hj
       · rw [List.getElem?_take] at hj
         split at hj
         · exact hr2 j y hj
         · cases hj
   · rename_i info r n he
     simp only [Option.some.injEq] at h; subst h
     obtain ⟨o1,o2⟩ := ho _ (List.mem_singleton.2 rfl)
     cases hx with
     | row _ _ g cap hp hn hm =>
       refine good_v (v := .pointer (some ⟨g,i.toNat * info.size,none⟩)) hM ?_ (.ptr _ _ _ _ hp)
       simp [Instr.indexAt,asIntOf,run_underlying hu,o1,o2,sizeOf,typeInfo,he,GW]
     | rowNil => omega
   · rename_i info r off n he
     simp only [Option.some.injEq] at h; subst h
     obtain ⟨o1,o2⟩ := ho _ (List.mem_singleton.2 rfl)
     cases hx with
     | view _ _ _ g c cap hp hn hm =>
       refine good_v (v := .pointer (some ⟨g,off + i.toNat * info.size,none⟩)) hM ?_ (.ptr _ _ _ _ hp)
       simp [Instr.indexAt,asIntOf,run_underlying hu,o1,o2,sizeOf,typeInfo,he,GW]
     | viewNil => omega
   · cases h
 · rename_i len e k i hu
   have := hi.inv_int; subst this
   split at h
   · rename_i info r off he
     simp only [Option.some.injEq] at h; subst h
     obtain ⟨o1,o2⟩ := ho _ (List.mem_singleton.2 rfl)
     cases hx with
     | ptr _ _ g c hp =>
       refine good_v (v := .pointer (some ⟨g,off + i.toNat * info.size,none⟩)) hM ?_ (.ptr _ _ _ _ hp)
       simp [Instr.indexAt,asIntOf,run_underlying hu,Instr.sureAddr,o1,o2,sizeOf,typeInfo,he,GW]
   · cases h
 · cases h
end
end Go.Ab
