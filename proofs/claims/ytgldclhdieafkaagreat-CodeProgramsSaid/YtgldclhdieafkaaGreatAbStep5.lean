/- Rows: literals, make, append; []byte(s) and string(b). -/
import Derived.Test.YtgldclhdieafkaaGreatAbStep4
namespace Go.Ab
open Go.RowKit
def KW (P : Program) (T : TypeId) (len : Nat) (parts : List (Nat × PV)) (σ : List AObj) : Option Out :=
 match P.underlying T with
 | some (.slice e) =>
   match P.info? e with
   | some info =>
     if len * info.size > 16777216 then none
     else match info.zero with
      | some z =>
        match H3 z.cells.toList with
        | some cs =>
          if cs.length = info.size && (0 < info.size) then
           match Mt (fun i => some (i * info.size,info.size)) ((List.range (len * info.size)).map fun j => cs.getD (j % info.size) .undef) parts with
           | some out => match toDs out with
             | some ds => if ds.length = len * info.size then some ⟨.row σ.length len,σ ++ [.row e info.size (D.looses ds)],none,[]⟩ else none
             | none => if out.length = len * info.size then some ⟨.view σ.length 0 len,σ ++ [.blk e out],none,[]⟩ else none
           | none => none
          else none
        | none => none
      | none => none
   | none => none
 | _ => none
def LD (P : Program) (T : TypeId) (l c : PV) (σ : List AObj) : Option Out :=
 match P.underlying T,l,c with
 | some (.slice e),.d (.int _ l),.d (.int _ c) =>
   match P.info? e with
   | some info =>
     match info.zero with
     | some z =>
       match Kb z with
       | some (.d x) =>
         if info.size = 1 then some ⟨.row σ.length l.toNat,σ ++ [.row e 1 (List.replicate l.toNat x)],none,[0 ≤ l ∧ l ≤ c ∧ c ≤ 281474976710656 ∧ info.bytes * c ≤ 281474976710656]⟩ else none
       | _ =>
         match H3 z.cells.toList with
         | some cs => match toDs cs with
           | some ds => if ds.length = info.size && (0 < info.size) then some ⟨.row σ.length l.toNat,σ ++ [.row e info.size (List.replicate l.toNat ds).flatten],none,[0 ≤ l ∧ l ≤ c ∧ c ≤ 281474976710656 ∧ info.bytes * c ≤ 281474976710656]⟩ else none
           | none => none
         | none => none
     | none => none
   | none => none
 | _,_,_ => none
def srcD (σ : List AObj) (size : Nat) : PV → Option (Nat × List D × List Prop)
 | .d (.list _ n xs) => some (n,xs,[xs.length = n * size])
 | .d (.str s) => if size = 1 then some (s.size,s.data.toList.map (fun b => D.int .u8 b.toNat),[]) else none
 | .row i n => match σ[i]? with
   | some (.row _ _ cs) => some (n,cs,[cs.length = n * size])
   | _ => none
 | _ => none
def RC (P : Program) (u : TypeId) : Bool :=
 match P.underlying u with
 | some (.slice _) | some .string => true
 | _ => false
def MF (P : Program) (t u : TypeId) (s x : PV) (σ : List AObj) : Option Out :=
 match P.underlying t with
 | some (.slice e) =>
   match P.info? e with
   | some info =>
     match info.zero,srcD σ info.size x with
     | some z,some (m,ys,obl) =>
       if RC P u && (z.cells.size = info.size) && (0 < info.size) then
        match s with
        | .row i n =>
          match σ[i]? with
          | some (.row e' sz cs) =>
            if e' = e && sz = info.size then
             some ⟨.row i (n + m),(σ.map (AObj.sub i fun _ => .undef)).set i (.row e sz (cs ++ ys)),some (i,fun _ => .undef),(cs.length = n * info.size ∧ n + m ≤ 281474976710656 ∧ (n + m) * info.bytes ≤ 140737488355328) :: obl⟩
            else none
          | _ => none
        | .d (.list true n xs) =>
          some ⟨.row σ.length (n + m),σ ++ [.row e info.size (xs ++ ys)],none,(xs.length = n * info.size ∧ (0 < m ∨ n = 0) ∧ n + m ≤ 281474976710656 ∧ (n + m) * info.bytes ≤ 140737488355328) :: obl⟩
        | _ => none
       else none
     | _,_ => none
   | none => none
 | _ => none
def NA (P : Program) (s d : TypeId) (x : PV) (σ : List AObj) (orc : Orc) : Option Out :=
 match P.underlying s,P.underlying d,x with
 | some _,some (.int k),.d (.int _ n) => some ⟨.d (.int k (k.wrap n)),σ,none,[]⟩
 | some _,some (.slice e),.d (.str b) =>
   match P.underlying e,P.info? e with
   | some (.int .u8),some info => if info.size = 1 then some ⟨.row σ.length b.size,σ ++ [.row e 1 (b.data.toList.map fun c => D.int .u8 c.toNat)],none,[b.size ≤ 281474976710656]⟩ else none
   | _,_ => none
 | some (.slice e),some .string,.row i n =>
   match P.underlying e,σ[i]?,orc with
   | some (.int .u8),some (.row _ _ cs),.nums l => some ⟨.d (.str (strOfNums l)),σ,none,[cs = l.map (D.int .u8),l.length = n]⟩
   | _,_,_ => none
 | some (.slice e),some .string,.d (.list _ n xs) =>
   match P.underlying e,orc with
   | some (.int .u8),.nums l => some ⟨.d (.str (strOfNums l)),σ,none,[xs = l.map (D.int .u8),l.length = n]⟩
   | _,_ => none
 | some .string,some .string,.d (.str b) => some ⟨.d (.str b),σ,none,[]⟩
 | _,_,_ => none
section
variable {P : Program} {E : Entry} {w : World} {hz : Hp} {φ : Phi} {σ : List AObj}
theorem Mi {w1 : World} (hw : w1.heap.size = w.heap.size) (e : TypeId) (sz : Nat) {arr : Array Value} {fr : Nat × Nat} {cs : List D} {cap : Nat} (hf : ∀ j,j < arr.size → ¬ (fr.1 ≤ j ∧ j < fr.2)) (hc : cap ≤ maxLen) (h1 : arr.size = cap * sz)
    (h2 : cs.length ≤ arr.size) (h3 : IZ hz arr cs) (hn : hz w.heap.size = none) :
    ∀ φ',Phi.le φ φ' → φ' σ.length = some (some (w.heap.size,cap)) → ObjRel hz φ' (w1.alloc (.cells arr e fr)) σ.length (.row e sz cs) :=
 fun φ' _ hp => .inr ⟨w.heap.size,cap,arr,fr,hp,by rw [← hw]; exact Fl w1 _,hf,hc,Nat.le_of_eq h1.symm,h2,h3,hn⟩
theorem OE {arr : Array Value} {ds : List D} (h : IZ hz arr ds) : IZ hz arr (D.looses ds) := by
 intro j x hj
 obtain ⟨y,hy,rfl⟩ := MU hj
 exact (h j y hy).loose
theorem LY {T : TypeId} {len : Nat} {parts : List (Nat × PV)} {vals : Array (Nat × Value)} {out : Out} (hM : Mem E hz φ σ w) (hl : vals.toList.length = parts.length)
    (hv : ∀ (j : Nat) (p : Nat × PV),parts[j]? = some p → ∃ v,vals.toList[j]? = some (p.1,v) ∧ RelV hz φ v p.2) (h : KW P T len parts σ = some out) :
    Good P E (do pure (.value (← Instr.buildSlice T len vals))) w hz φ out := by
 unfold KW at h
 split at h
 · rename_i e hu
   split at h
   · rename_i info hi
     split at h
     · cases h
     · rename_i hsmall
       split at h
       · rename_i z hz0
         split at h
         · rename_i cs hcs
           split at h
           · rename_i hcl
             simp at hcl
             obtain ⟨hcl,hpos⟩ := hcl
             split at h
             · rename_i o ho
               have hex : ∃ arr',(Instr.buildSlice T len vals).run P w = .ok (.slice (some ⟨w.heap.size,0,none⟩) len len) (w.alloc (.cells arr' e)) ∧ arr'.size = o.length ∧ G8 hz φ arr' o := by
                   obtain ⟨h1,h2⟩ := Gc (hz := hz) (φ := φ) hcs
                   have hstart : G8 hz φ ((Array.range (len * info.size)).map fun j => z.cells[j % z.cells.size]!) ((List.range (len * info.size)).map fun j => cs.getD (j % info.size) .undef) := by
                    intro j x hj
                    rw [List.getElem?_map] at hj
                    by_cases hjl : j < len * info.size
                    · rw [List.getElem?_range hjl] at hj
                      simp at hj
                      have hm : j % info.size < cs.length := by rw [hcl]; exact Nat.mod_lt _ hpos
                      have hx : cs[j % info.size]? = some x := by
                       rw [List.getElem?_eq_getElem hm] at hj ⊢
                       simpa using hj
                      have := h2 _ x hx
                      have hsz : z.cells.size = info.size := by omega
                      have hm2 : j % info.size < z.cells.size := by omega
                      simp [Array.getD_eq_getD_getElem?,hjl,hsz] at this ⊢
                      simpa [hm2] using this
                    · rw [List.getElem?_eq_none (by simp; omega)] at hj
                      cases hj
                   obtain ⟨arr',e1,e2,e3⟩ := Lk parts vals.toList _ _ o hl hv (by simp) hstart ho
                   have hrun : (Instr.buildSlice T len vals).run P w = .ok (.slice (some ⟨w.heap.size,0,none⟩) len len) (w.alloc (.cells arr' e)) := by
                    have e1' := e1
                    unfold Instr.buildSlice
                    rw [Sem.run_bind,run_underlying hu]
                    simp only [Result.andThen_ok]
                    rw [Sem.run_bind,show (sizeOf e).run P w = .ok info.size w by simp [sizeOf,typeInfo,hi]]
                    simp only [Result.andThen_ok]
                    rw [if_neg (by simpa using hsmall)]
                    by_cases hz1 : len * info.size = 0
                    · rw [if_pos hz1,Sem.run_bind]
                      simp only [Sem.run_pure,Result.andThen_ok]
                      have : ((Array.range (len * info.size)).map fun j => (#[] : Array Value)[j % (#[] : Array Value).size]!) = ((Array.range (len * info.size)).map fun j => z.cells[j % z.cells.size]!) := by
                       rw [hz1]; simp
                      rw [this,e1']
                      simp [newRow]
                    · rw [if_neg hz1,Sem.run_bind,show (zeroValue e).run P w = .ok z w by simp [zeroValue,typeInfo,hi,hz0]]
                      simp only [Result.andThen_ok]
                      rw [Sem.run_bind]
                      simp only [Sem.run_pure,Result.andThen_ok]
                      rw [e1']
                      simp [newRow]
                   exact ⟨arr',hrun,e2,e3⟩
               obtain ⟨arr',hrun,e2,e3⟩ := hex
               have hlm : len ≤ maxLen := by
                have : len ≤ len * info.size := Nat.le_mul_of_pos_right _ hpos
                unfold maxLen; omega
               split at h
               · rename_i ds hds
                 split at h
                 · rename_i hdl
                   simp only [Option.some.injEq] at h; subst h
                   have hd := toDs_get hds
                   refine good_new hM ⟨rfl,rfl,rfl,rfl⟩ hrun (Mi rfl e info.size (cap := len) (by simp) ?_ ?_ ?_ (OE (relCells_ds e3 hds)) hM.fresh) (fun φ' hp => .row _ _ _ _ hp (Nat.le_refl _) ?_)
                   · have : len ≤ len * info.size := Nat.le_mul_of_pos_right _ hpos
                     unfold maxLen; omega
                   · omega
                   · rw [Ld]; omega
                   · have : len ≤ len * info.size := Nat.le_mul_of_pos_right _ hpos
                     unfold maxLen; omega
                 · cases h
               · split at h
                 · rename_i hol
                   simp only [Option.some.injEq] at h; subst h
                   refine good_new (c := 0) hM ⟨rfl,rfl,rfl,rfl⟩ hrun (OG e e2 e3 hM.fresh) (fun φ' hp => .view _ _ _ _ _ _ hp (Nat.le_refl _) hlm)
                 · cases h
             · cases h
           · cases h
         · cases h
       · cases h
   · cases h
 · cases h
theorem flat_rep {α : Type} (ds : List α) : ∀ (n j : Nat) (y : α),(List.replicate n ds).flatten[j]? = some y → j < n * ds.length ∧ ds[j % ds.length]? = some y
 | 0,j,y,h => by simp at h
 | n + 1,j,y,h => by
   rw [List.replicate_succ,List.flatten_cons] at h
   rcases Nat.lt_or_ge j ds.length with hl | hl
   · rw [List.getElem?_append_left hl] at h
     rw [Nat.mod_eq_of_lt hl]
     refine ⟨?_,h⟩
     have : ds.length ≤ (n + 1) * ds.length := Nat.le_mul_of_pos_left _ (by omega)
     omega
   · rw [List.getElem?_append_right hl] at h
     obtain ⟨h1,h2⟩ := flat_rep ds n (j - ds.length) y h
     rw [Nat.mod_eq_sub_mod hl]
     refine ⟨?_,h2⟩
     rw [Nat.succ_mul]
     omega
theorem MC {T : TypeId} {l c : PV} {vl vc : Value} {out : Out} (hM : Mem E hz φ σ w) (hl : RelV hz φ vl l) (hc : RelV hz φ vc c) (h : LD P T l c σ = some out) (ho : ∀ p ∈ out.obl,p) :
    Good P E (do pure (.value (← Instr.makeSlice T vl vc))) w hz φ out := by
 unfold LD at h
 split at h
 · rename_i e kl l kc c hu
   have := hl.inv_int; subst this
   have := hc.inv_int; subst this
   split at h
   · rename_i info hi
     split at h
     · rename_i z hz0
       split at h
       · rename_i x hx
         split at h
         · rename_i hs1
           simp only [Option.some.injEq] at h; subst h
           obtain ⟨o1,o2,o3,o4⟩ := ho _ (List.mem_singleton.2 rfl)
           have hr := run_make (P := P) w T e info z hu hi hz0 kl kc l c o1 o2 o4 (by omega)
           rw [hs1,Nat.mul_one] at hr
           have hcell : RelD hz z x := relV_d (Ig (hz := hz) (φ := φ) hx)
           have hzc : z.cells = #[z] := by
            have := Jb (Ig (hz := hz) (φ := φ) hx) rfl
            exact Lb this
           have hsz : (madeCells z.cells c.toNat).size = c.toNat := by simp [madeCells]
           have hget : ∀ j,j < c.toNat → (madeCells z.cells c.toNat).getD j Go.undef = z := by
            intro j hj
            simp [madeCells,hzc,Array.getD_eq_getD_getElem?,hj,Nat.mod_one]
           refine good_new hM ⟨rfl,rfl,rfl,rfl⟩ hr (Mi rfl e 1 (cap := c.toNat) (by simp) (by unfold maxLen; omega) (by rw [hsz,Nat.mul_one]) (by rw [hsz]; simp; omega) ?_ hM.fresh) (fun φ' hp => .row _ _ _ _ hp (by omega) (by unfold maxLen; omega))
           intro j y hj
           rw [List.getElem?_replicate] at hj
           split at hj
           · rename_i hjl
             simp at hj; subst hj
             rw [hget j (by omega)]
             exact hcell
           · cases hj
         · cases h
       · split at h
         · rename_i cs hcs
           split at h
           · rename_i ds hds
             split at h
             · rename_i hcl
               simp at hcl
               obtain ⟨hcl,hpos⟩ := hcl
               simp only [Option.some.injEq] at h; subst h
               obtain ⟨o1,o2,o3,o4⟩ := ho _ (List.mem_singleton.2 rfl)
               have hr := run_make (P := P) w T e info z hu hi hz0 kl kc l c o1 o2 o4 (by omega)
               obtain ⟨h1,h2⟩ := Gc (hz := hz) (φ := φ) hcs
               have hrd := relCells_ds h2 hds
               have hlen : z.cells.size = info.size := by rw [h1,← (toDs_get hds).1,hcl]
               have hlc : l.toNat * info.size ≤ c.toNat * info.size := Nat.mul_le_mul_right _ (by omega)
               have hfl : ∀ n,(List.replicate n ds).flatten.length = n * info.size := fun n => by simp [hcl]
               refine good_new hM ⟨rfl,rfl,rfl,rfl⟩ hr (Mi rfl e info.size (cap := c.toNat) (by simp) (by unfold maxLen; omega) (by rw [size_madeCells]) (by rw [size_madeCells,hfl]; exact hlc) ?_ hM.fresh) (fun φ' hp => .row _ _ _ _ hp (by omega) (by unfold maxLen; omega))
               intro j y hj
               obtain ⟨k1,k2⟩ := flat_rep ds l.toNat j y hj
               rw [hcl] at k1 k2
               have hjl : j < c.toNat * info.size := by omega
               have hm : j % info.size < z.cells.size := by rw [hlen]; exact Nat.mod_lt _ hpos
               have := hrd _ y k2
               simp only [madeCells,Array.getD_eq_getD_getElem?,Array.getElem?_map,Array.getElem?_range,hjl,if_true,Option.map_some,Option.getD_some,hlen]
               rw [getElem!_pos z.cells _ hm]
               simpa [Array.getD_eq_getD_getElem?,hm] using this
             · cases h
           · cases h
         · cases h
     · cases h
   · cases h
 · cases h
theorem isSrc_spec {u : TypeId} (h : RC P u = true) : OB P u := by
 unfold RC at h
 split at h
 · rename_i e he; exact .inl ⟨e,he⟩
 · rename_i he; exact .inr he
 · cases h
theorem srcD_gives {size : Nat} {x : PV} {v : Value} {m : Nat} {ys : List D} {obl : List Prop} (hM : Mem E hz φ σ w) (hx : RelV hz φ v x) (h : srcD σ size x = some (m,ys,obl)) (ho : ∀ p ∈ obl,p) :
    ∃ news : List Value,MH P w size v m news ∧ news.length = m * size ∧ ys.length = m * size ∧ (∀ u ∈ news,u.oneCell' = true) ∧ ∀ (j : Nat) (y : D),ys[j]? = some y → ∃ u : Value,news[j]? = some u ∧ RelD hz u y := by
 have one : ∀ {u : Value} {y : D},RelD hz u y → u.oneCell' = true := fun h => by cases h <;> rfl
 have gen : ∀ (n : Nat) (xs : List D) (g off cap : Nat) (arr : Array Value) (e : TypeId) (fr : Nat × Nat),w.heap[g]? = some (.cells arr e fr) → xs.length = n * size →
     (∀ (j : Nat) (x : D),xs[j]? = some x → ∃ u : Value,arr[off + j]? = some u ∧ RelD hz u x) →
     ∃ news : List Value,MH P w size (.slice (some ⟨g,off,none⟩) n cap) n news ∧ news.length = n * size ∧ xs.length = n * size ∧ (∀ u ∈ news,u.oneCell' = true) ∧ ∀ (j : Nat) (y : D),xs[j]? = some y → ∃ u : Value,news[j]? = some u ∧ RelD hz u y := by
  intro n xs g off cap arr e fr hg hlen hr
  refine ⟨(List.range xs.length).map fun j => arr.getD (off + j) Go.undef,JG w size g off e fr arr n cap _ hg (by simp [hlen]) ?_,by simp [hlen],hlen,?_,?_⟩
  · intro j v hj
    rw [List.getElem?_map] at hj
    by_cases hjl : j < xs.length
    · rw [List.getElem?_range hjl] at hj
      obtain ⟨u,hu,_⟩ := hr j xs[j] (List.getElem?_eq_getElem hjl)
      simp [Array.getD_eq_getD_getElem?,hu] at hj
      rw [hu,hj]
    · rw [List.getElem?_eq_none (by simp; omega)] at hj; cases hj
  · intro u hu
    obtain ⟨j,hj,rfl⟩ := List.mem_map.1 hu
    have hjl : j < xs.length := List.mem_range.1 hj
    obtain ⟨u,hu,hd⟩ := hr j xs[j] (List.getElem?_eq_getElem hjl)
    simp only [Array.getD_eq_getD_getElem?,hu,Option.getD_some]
    exact one hd
  · intro j y hj
    have hjl := AL hj
    obtain ⟨u,hu,hd⟩ := hr j y hj
    exact ⟨u,by simp [hjl,Array.getD_eq_getD_getElem?,hu],hd⟩
 unfold srcD at h
 split at h
 · rename_i tight n xs
   simp at h
   obtain ⟨rfl,rfl,rfl⟩ := h
   have hlen : xs.length = n * size := ho _ (by simp)
   cases hx with
   | d hd =>
   cases hd with
   | list0 a cap _ ht hm => exact ⟨[],Js w size a cap,by simp,by simp,by simp,by simp⟩
   | list g off _ cap _ _ arr e fr f hg hn hm ht hx hr => exact gen n xs g off cap arr e fr (hM.knows _ _ hg) hlen (fun j x hj => ⟨f j,hx j x hj,hr j x hj⟩)
 · rename_i s
   split at h
   · rename_i hs
     subst hs
     simp at h
     obtain ⟨rfl,rfl,rfl⟩ := h
     have := hx.inv_str; subst this
     refine ⟨_,Oa w s,by simp,by simp,?_,?_⟩
     · intro u hu
       obtain ⟨b,_,rfl⟩ := List.mem_map.1 hu
       rfl
     · intro j y hj
       rw [List.getElem?_map] at hj ⊢
       cases hq : s.data.toList[j]? with
       | none => rw [hq] at hj; cases hj
       | some b => rw [hq] at hj; simp at hj; subst hj; exact ⟨_,rfl,.int _ _⟩
   · cases h
 · rename_i i n
   split at h
   · rename_i e sz cs hs
     simp at h
     obtain ⟨rfl,rfl,rfl⟩ := h
     have hlen : cs.length = n * size := ho _ (by simp)
     rcases hM.objs _ _ hs with ⟨h1,rfl⟩ | ⟨g,cap,arr,fr,h1,h2,h3,h4,h5,h6,h7,h8⟩
     · cases hx with
       | row _ _ g cap hp => rw [h1] at hp; simp at hp
       | rowNil _ a => exact ⟨[],Js w size a 0,by simp,by simp,by simp,by simp⟩
     · cases hx with
       | row _ _ g' cap' hp hn hm =>
         rw [h1] at hp; simp at hp; obtain ⟨rfl,rfl⟩ := hp
         refine gen n cs g 0 cap arr e fr h2 hlen (fun j x hj => ?_)
         have hjl := AL hj
         have hja : j < arr.size := by omega
         have := h7 j x hj
         refine ⟨arr[j],by simp [hja],?_⟩
         simpa [Array.getD_eq_getD_getElem?,hja] using this
       | rowNil _ _ hp => rw [h1] at hp; simp at hp
   · cases h
 · cases h
end
end Go.Ab
