/- Arrays that are built, maps of few keys, equal structs. -/
import Derived.Test.YtgldclhdieafkaaGreatAbStep7
import Derived.Laws.StructEq
namespace Go.Ab
open Go.RowKit
def O1 (P : Program) (T : TypeId) (parts : List (Nat × PV)) (σ : List AObj) : Option Out :=
 match P.underlying T,P.info? T with
 | some (.array _ e),some info =>
   match P.info? e,info.zero with
   | some ie,some z =>
     match H3 z.cells.toList with
     | some cs => match Mt (fun i => some (i * ie.size,ie.size)) cs parts with
       | some out => match toDs out with
         | some ds => some ⟨.dagg ds,σ,none,[]⟩
         | none => some ⟨.agg out,σ,none,[]⟩
       | none => none
     | none => none
   | _,_ => none
 | _,_ => none
def O0 (P : Program) (T : TypeId) (parts : List (Nat × PV)) (σ : List AObj) : Option Out :=
 match Rk P T parts σ with
 | some o => some o
 | none => O1 P T parts σ
def Mh (k : IntKind) (n : Int) : List D → Bool
 | [] => true
 | .int k' m :: l => decide (k = k') && !(n == m) && Mh k n l
 | _ :: _ => false
def Jr : TypeDesc → Bool | .int _ => true | _ => false
def Nu (r : Option PV) (σ : List AObj) : Option Out :=
 match r with
 | none => some ⟨.mapv σ.length,σ ++ [.mp [] []],none,[]⟩
 | _ => none
def OY (P : Program) (T : TypeId) (m k v : PV) (σ : List AObj) : Option Out :=
 match P.underlying T,m,k with
 | some (.map kt _),.mapv i,.d (.int kk n) =>
   match P.underlying kt,σ[i]? with
   | some desc,some (.mp ks vs) => if Jr desc && Mh kk n ks then some ⟨.undef,σ.set i (.mp (ks ++ [.int kk n]) (vs ++ [v])),none,[]⟩ else none
   | _,_ => none
 | _,_,_ => none
def lkI (k k2 : IntKind) (n z : Int) : List D → List PV → Option Int
 | [],[] => some z
 | .int k' m :: ks,.d (.int k2' x) :: vs => if k = k' ∧ k2 = k2' then match lkI k k2 n z ks vs with | some r => some (cond (n == m) x r) | none => none else none
 | _,_ => none
def lkB (n : Int) : List D → Bool
 | .int _ m :: ks => (n == m) || lkB n ks
 | _ => false
def OW (P : Program) (T : TypeId) (m k : PV) (ok : Bool) (σ : List AObj) : Option Out :=
 match P.underlying T,m,k with
 | some (.map kt vt),.mapv i,.d (.int kk n) =>
   match P.underlying kt,σ[i]?,P.info? vt with
   | some desc,some (.mp ks vs),some info =>
     match info.zero with
     | some (.int k2 z) => if Jr desc then match lkI kk k2 n z ks vs with | some r => some ⟨if ok then .tup [.d (.int k2 r),.d (.bool (lkB n ks))] else .d (.int k2 r),σ,none,[]⟩ | none => none else none
     | _ => none
   | _,_,_ => none
 | _,_,_ => none
def eqFs (P : Program) (q : TypeId → List D → List D → Option Bool) : List Field → List D → List D → Option Bool
 | [],_,_ => some true
 | f :: l,xs,ys =>
   if f.name = "_" then eqFs P q l xs ys
   else match P.info? f.type,P.underlying f.type with
    | some i,some desc =>
      if (f.offset + i.size ≤ xs.length) && (f.offset + i.size ≤ ys.length) && (isAggD desc || i.size == 1) then
       match q f.type ((xs.drop f.offset).take i.size) ((ys.drop f.offset).take i.size),eqFs P q l xs ys with
       | some b,some r => some (b && r)
       | _,_ => none
      else none
    | _,_ => none
def eqD (P : Program) : Nat → TypeId → List D → List D → Option Bool
 | 0,_,_,_ => none
 | d + 1,t,xs,ys =>
   match P.underlying t,xs,ys with
   | some (.int _),[.int k a],[.int k' b] => if k = k' then some (a == b) else none
   | some .bool,[.bool a],[.bool b] => some (a == b)
   | some .string,[.str a],[.str b] => some (a.toList == b.toList)
   | some (.struct fs),xs,ys => if P.stoodInHeld t then none else eqFs P (eqD P d) fs.toList xs ys
   | _,_,_ => none
def aEqS (P : Program) (op : BinOp) (T : TypeId) (x y : PV) : Option (PV × List Prop) :=
 match x,y,P.eqGuardType P.depth T with
 | .agg xs,.agg ys,false =>
   match toDs xs,toDs ys with
   | some a,some b =>
     match op,eqD P 16 T a b,P.underlying T with
     | .eql,some r,some (.struct _) => some (.d (.bool r),[])
     | .neq,some r,some (.struct _) => some (.d (.bool !r),[])
     | _,_,_ => none
   | _,_ => none
 | _,_,_ => none
def SV (xs ys : List D) : Prop := ∃ k a b c d,xs = [.int k a,.int k b] ∧ ys = [.int k c,.int k d]
def Tq : List D → List D → Bool
 | [.int _ a,.int _ b],[.int _ c,.int _ d] => (a == c) && (b == d)
 | _,_ => false
def aEqA (P : Program) (op : BinOp) (T : TypeId) (x y : PV) : Option (PV × List Prop) :=
 match x,y,P.eqGuardType P.depth T,P.underlying T with
 | .dagg xs,.dagg ys,false,some (.array 2 e) =>
   match P.underlying e,P.info? e with
   | some (.int _),some info =>
     if info.size = 1 then
      match op with
      | .eql => some (.d (.bool (Tq xs ys)),[SV xs ys])
      | .neq => some (.d (.bool !(Tq xs ys)),[SV xs ys])
      | _ => none
     else none
   | _,_ => none
 | _,_,_,_ => none
def aEqX (P : Program) (op : BinOp) (T : TypeId) (x y : PV) : Option (PV × List Prop) :=
 match aEq P op T x y with
 | some r => some r
 | none => match aEqS P op T x y with
   | some r => some r
   | none => aEqA P op T x y
section
variable {P : Program} {E : Entry} {w : World} {hz : Hp} {φ : Phi} {σ : List AObj}
def putO (w : World) (g : Nat) (o : Obj) : World := { w with heap := w.heap.setIfInBounds g o }
theorem Ms {r : Nat} {es : Array MapEntry} {clock : Nat} (h : w.heap[r]? = some (.map es clock)) : (getObj r).run P w = .ok (.map es clock) w := by simp [getObj,Sem.run,h]
theorem OC {r : Nat} {es : Array MapEntry} {clock : Nat} (o : Obj) (h : w.heap[r]? = some (.map es clock)) : (setObj r o).run P w = .ok () (putO w r o) := by simp [setObj,Sem.run,h,putO]
theorem Oq {T : TypeId} {parts : List (Nat × PV)} {vals : Array (Nat × Value)} {out : Out} (hM : Mem E hz φ σ w) (hl : vals.toList.length = parts.length)
    (hv : ∀ (j : Nat) (p : Nat × PV),parts[j]? = some p → ∃ v,vals.toList[j]? = some (p.1,v) ∧ RelV hz φ v p.2) (h : O1 P T parts σ = some out) :
    Good P E (do pure (.value (← Instr.build T vals))) w hz φ out := by
 unfold O1 at h
 split at h
 · rename_i len e info hu hi
   split at h
   · rename_i ie z hie hz0
     split at h
     · rename_i cs hcs
       split at h
       · rename_i o ho
         split at h
         · rename_i ds hds
           simp only [Option.some.injEq] at h; subst h
           obtain ⟨h1,h2⟩ := Gc (hz := hz) (φ := φ) hcs
           obtain ⟨arr',e1,e2,e3⟩ := Lk parts vals.toList z.cells cs o hl hv h1 h2 ho
           refine good_v (v := .agg arr') hM ?_ (.dagg _ _ (by rw [(toDs_get hds).1]; exact e2) (relCells_ds e3 hds))
           have hzv : (zeroValue T).run P w = .ok z w := by simp [zeroValue,typeInfo,hi,hz0]
           unfold Instr.build
           rw [Sem.run_bind,hzv]
           simp only [Result.andThen_ok]
           rw [Sem.run_bind,run_underlying hu]
           simp only [Result.andThen_ok]
           rw [Sem.run_bind,show (sizeOf e).run P w = .ok ie.size w by simp [sizeOf,typeInfo,hie]]
           simp only [Result.andThen_ok]
           rw [e1]
           rfl
         · simp only [Option.some.injEq] at h; subst h
           obtain ⟨h1,h2⟩ := Gc (hz := hz) (φ := φ) hcs
           obtain ⟨arr',e1,e2,e3⟩ := Lk parts vals.toList z.cells cs o hl hv h1 h2 ho
           refine good_v (v := .agg arr') hM ?_ (.agg _ _ e2 e3)
           have hzv : (zeroValue T).run P w = .ok z w := by simp [zeroValue,typeInfo,hi,hz0]
           unfold Instr.build
           rw [Sem.run_bind,hzv]
           simp only [Result.andThen_ok]
           rw [Sem.run_bind,run_underlying hu]
           simp only [Result.andThen_ok]
           rw [Sem.run_bind,show (sizeOf e).run P w = .ok ie.size w by simp [sizeOf,typeInfo,hie]]
           simp only [Result.andThen_ok]
           rw [e1]
           rfl
       · cases h
     · cases h
   · cases h
 · cases h
theorem Oo {T : TypeId} {parts : List (Nat × PV)} {vals : Array (Nat × Value)} {out : Out} (hM : Mem E hz φ σ w) (hl : vals.toList.length = parts.length)
    (hv : ∀ (j : Nat) (p : Nat × PV),parts[j]? = some p → ∃ v,vals.toList[j]? = some (p.1,v) ∧ RelV hz φ v p.2) (h : O0 P T parts σ = some out) :
    Good P E (do pure (.value (← Instr.build T vals))) w hz φ out := by
 unfold O0 at h
 split at h
 · rename_i o ho; cases h; exact aBuild_good hM hl hv ho
 · exact Oq hM hl hv h
theorem Nt {T : TypeId} {r : Option PV} {vr : Option Value} {out : Out} (hM : Mem E hz φ σ w) (hr : Gx hz φ vr r) (h : Nu r σ = some out) :
    Good P E (do pure (.value (← Instr.makeMap T vr))) w hz φ out := by
 unfold Nu at h
 split at h
 · simp only [Option.some.injEq] at h; subst h
   have hn : vr = none := by have := hr.isSome; cases vr with | none => rfl | some v => simp at this
   subst hn
   obtain ⟨φ',h1,h2,h3⟩ := hM.alloc (.map #[] 0) 0 (Nat.zero_le _) (.mp [] []) (fun φ' hle hp => ⟨w.heap.size,0,#[],0,hp,Fl w _,rfl,rfl,by simp,by simp,by
    rcases hq : hz w.heap.size with _ | o
    · rfl
    · have := lt_of_get (hM.knows _ _ hq); omega⟩)
   refine ⟨_,.map (some w.heap.size),w.alloc (.map #[] 0),hz,φ',?_,.inl rfl,h3,.mapv _ _ _ h2,fun u x hx => hx.mono (Hp.le_refl _) h1⟩
   rfl
 · cases h
theorem J7 {desc : TypeDesc} (hd : Jr desc = true) {kk : IntKind} {n : Int} : ∀ (es : List MapEntry) (ks : List D) (i : Nat),es.length = ks.length → (∀ (j : Nat) (k : D),ks[j]? = some k → ∃ e : MapEntry,es[j]? = some e ∧ RelD hz e.key k) → Mh kk n ks = true →
    Instr.findNow desc (.int kk n) es i = some none
 | [],_,_,_,_,_ => rfl
 | e :: es,[],i,hl,_,_ => by simp at hl
 | e :: es,k :: ks,i,hl,hk,hn => by
   obtain ⟨e',h1,h2⟩ := hk 0 k rfl
   simp at h1; subst h1
   cases k with
   | int k' m =>
     simp only [Mh,Bool.and_eq_true,decide_eq_true_eq,Bool.not_eq_true'] at hn
     obtain ⟨⟨hkk,hne⟩,hn⟩ := hn
     subst hkk
     cases hke : e.key with
     | int a b =>
       rw [hke] at h2; cases h2
       cases desc <;> first | (cases hd) | skip
       simp only [Instr.findNow,Instr.sameNow,hke,if_true,hne]
       exact J7 rfl es ks (i + 1) (by simpa using hl) (fun j k hj => by simpa using hk (j + 1) k (by simpa using hj)) hn
     | _ => rw [hke] at h2; cases h2
   | _ => simp [Mh] at hn
theorem Iy {desc : TypeDesc} (hd : Jr desc = true) {kt : TypeId} (hu : P.underlying kt = some desc) (b : Bool) (kk : IntKind) (n : Int) : (Instr.checkKey b 10000 kt (.int kk n)).run P w = .ok () w := by
 cases desc <;> first | (cases hd) | skip
 have : ∀ d : Nat,(Instr.checkKey b (d + 1) kt (.int kk n)).run P w = .ok () w := by
  intro d
  simp only [Instr.checkKey,Sem.run_bind,run_underlying hu,Result.andThen_ok]
  rfl
 exact this 9999
theorem Om {T : TypeId} {m k v : PV} {vm vk vv : Value} {out : Out} (hM : Mem E hz φ σ w) (hm : RelV hz φ vm m) (hk : RelV hz φ vk k) (hv : RelV hz φ vv v) (h : OY P T m k v σ = some out) :
    Good P E (do Instr.mapUpdate T vm vk vv; pure .skip) w hz φ out := by
 unfold OY at h
 split at h
 · rename_i kt vt i kk n hu
   split at h
   · rename_i desc ks vs hd hi
     split at h
     · rename_i hc
       simp only [Bool.and_eq_true] at hc
       simp only [Option.some.injEq] at h; subst h
       have := hk.inv_int; subst this
       obtain ⟨g,c,es,clock,q1,q2,q3,q4,q5,q6,q7⟩ := hM.objs i _ hi
       cases hm with
       | mapv _ g' c' hp =>
       rw [q1] at hp; cases hp
       have hg : g < w.heap.size := lt_of_get q2
       have hf : (Instr.findKey kt (.int kk n) es.toList).run P w = .ok none w := by
        unfold Instr.findKey
        rw [Sem.run_bind,run_underlying hd]
        simp only [Result.andThen_ok]
        rw [J7 hc.1 es.toList ks 0 (by simpa using q3) (fun j k hj => by simpa using q5 j k hj) hc.2]
        rfl
       let w' : World := putO w g (.map (es.push { key := .int kk n,val := vv,born := clock }) (clock + 1))
       have hw' : w'.heap[g]? = some (.map (es.push { key := .int kk n,val := vv,born := clock }) (clock + 1)) := by
        simp [w',putO,hg]
       have hrun : (do Instr.mapUpdate T (.map (some g)) (.int kk n) vv; pure Next.skip : Sem Next).run P w = .ok .skip w' := by
        rw [Sem.run_bind]
        unfold Instr.mapUpdate
        rw [Sem.run_bind,run_underlying hu]
        simp only [Result.andThen_ok]
        rw [Sem.run_bind,Ms q2]
        simp only [Result.andThen_ok]
        rw [Sem.run_bind,Iy hc.1 hd]
        simp only [Result.andThen_ok]
        rw [Sem.run_bind,hf]
        simp only [Result.andThen_ok]
        rw [OC _ q2]
        rfl
       refine ⟨.skip,undef,w',hz,φ,hrun,.inr ⟨rfl,rfl⟩,?_,.undef _,fun _ _ h => h⟩
       refine hM.write hi rfl rfl q1 (fun k hk => ?_) ?_ rfl rfl rfl ⟨g,c,_,_,q1,hw',?_,?_,?_,?_,q7⟩
       · simp [w',putO,Array.getElem?_setIfInBounds]
         intro e; exact absurd e.symm hk
       · simp [w',putO]
       · simp [q3]
       · simp [q4]
       · intro j k hj
         rw [List.getElem?_append] at hj
         split at hj
         · rename_i hlt
           obtain ⟨e,h1,h2⟩ := q5 j k hj
           refine ⟨e,?_,h2⟩
           rw [Array.getElem?_push,if_neg (by omega)]; exact h1
         · have : j - ks.length = 0 := by
             rcases Nat.eq_zero_or_pos (j - ks.length) with h | h
             · exact h
             · rw [List.getElem?_eq_none (by simp; omega)] at hj; cases hj
           rw [this] at hj; simp at hj; subst hj
           have hjl : j = es.size := by omega
           subst hjl
           exact ⟨{ key := .int kk n,val := vv,born := clock },by simp,.int _ _⟩
       · intro j x hj
         rw [List.getElem?_append] at hj
         split at hj
         · rename_i hlt
           obtain ⟨e,h1,h2⟩ := q6 j x hj
           refine ⟨e,?_,h2⟩
           rw [Array.getElem?_push,if_neg (by omega)]; exact h1
         · have : j - vs.length = 0 := by
             rcases Nat.eq_zero_or_pos (j - vs.length) with h | h
             · exact h
             · rw [List.getElem?_eq_none (by simp; omega)] at hj; cases hj
           rw [this] at hj; simp at hj; subst hj
           have hjl : j = es.size := by omega
           subst hjl
           exact ⟨{ key := .int kk n,val := vv,born := clock },by simp,hv⟩
     · cases h
   · cases h
 · cases h
theorem lkI_find {desc : TypeDesc} (hd : Jr desc = true) {kk k2 : IntKind} {n z : Int} : ∀ (es : List MapEntry) (ks : List D) (vs : List PV) (i : Nat) (r : Int),es.length = ks.length →
    (∀ (j : Nat) (k : D),ks[j]? = some k → ∃ e : MapEntry,es[j]? = some e ∧ RelD hz e.key k) → (∀ (j : Nat) (x : PV),vs[j]? = some x → ∃ e : MapEntry,es[j]? = some e ∧ RelV hz φ e.val x) → lkI kk k2 n z ks vs = some r →
    ∃ q,Instr.findNow desc (.int kk n) es i = some q ∧ (match q with | some p => p.2 = .int k2 r | none => r = z) ∧ q.isSome = lkB n ks
 | [],[],[],i,r,_,_,_,h => by simp [lkI] at h; exact ⟨none,rfl,h.symm,rfl⟩
 | [],[],_ :: _,i,r,_,_,_,h => by simp [lkI] at h
 | [],_ :: _,_,i,r,hl,_,_,_ => by simp at hl
 | e :: es,[],_,i,r,hl,_,_,_ => by simp at hl
 | e :: es,k :: ks,[],i,r,hl,_,_,h => by cases k <;> simp [lkI] at h
 | e :: es,k :: ks,v :: vs,i,r,hl,hk,hv,h => by
   obtain ⟨e',h1,h2⟩ := hk 0 k rfl
   simp at h1; subst h1
   obtain ⟨e',h1,h3⟩ := hv 0 v rfl
   simp at h1; subst h1
   unfold lkI at h
   split at h
   · rename_i e1 e2; cases e1
   · rename_i k' m ks' k2' x vs' e1 e2
     cases e1; cases e2
     split at h
     · rename_i hkk
       obtain ⟨rfl,rfl⟩ := hkk
       split at h
       · rename_i r' hr'
         simp only [Option.some.injEq] at h
         cases hke : e.key with
         | int a b =>
           rw [hke] at h2; cases h2
           have hval := h3.inv_int
           cases desc <;> first | (cases hd) | skip
           cases hb : (n == m) with
           | true =>
             refine ⟨some (i,e.val),?_,?_,?_⟩
             · simp only [Instr.findNow,Instr.sameNow,hke,if_true,hb]
             · rw [hb] at h; simp only [cond_true] at h; rw [← h]; exact hval
             · simp only [lkB,hb,Bool.true_or]; rfl
           | false =>
             obtain ⟨q,g1,g2,g3⟩ := lkI_find (desc := .int _) rfl es ks vs (i + 1) r' (by simpa using hl) (fun j k hj => by simpa using hk (j + 1) k (by simpa using hj)) (fun j k hj => by simpa using hv (j + 1) k (by simpa using hj)) hr'
             refine ⟨q,?_,?_,?_⟩
             · simp only [Instr.findNow,Instr.sameNow,hke,if_true,hb]; exact g1
             · rw [hb] at h; simp only [cond_false] at h; rw [← h]; exact g2
             · simp only [lkB,hb,Bool.false_or]; exact g3
         | _ => rw [hke] at h2; cases h2
       · cases h
     · cases h
   · cases h
theorem Ol {T : TypeId} {m k : PV} {vm vk : Value} {ok : Bool} {out : Out} (hM : Mem E hz φ σ w) (hm : RelV hz φ vm m) (hk : RelV hz φ vk k) (h : OW P T m k ok σ = some out) :
    Good P E (do pure (.value (← Instr.lookup T vm vk ok))) w hz φ out := by
 unfold OW at h
 split at h
 · rename_i kt vt i kk n hu
   split at h
   · rename_i desc ks vs info hd hi hinf
     split at h
     · rename_i k2 z hz0
       split at h
       · rename_i hc
         split at h
         · rename_i r hr
           simp only [Option.some.injEq] at h; subst h
           have := hk.inv_int; subst this
           obtain ⟨g,c,es,clock,q1,q2,q3,q4,q5,q6,q7⟩ := hM.objs i _ hi
           cases hm with
           | mapv _ g' c' hp =>
           rw [q1] at hp; cases hp
           obtain ⟨q,g1,g2,g3⟩ := lkI_find (hz := hz) (φ := φ) hc es.toList ks vs 0 r (by simpa using q3) (fun j k hj => by simpa using q5 j k hj) (fun j k hj => by simpa using q6 j k hj) hr
           refine good_v hM (v := if ok then .tuple #[.int k2 r,.bool (lkB n ks)] else .int k2 r) ?_ (by
            cases ok
            · exact .d (.int _ _)
            · refine .tup #[.int k2 r,.bool (lkB n ks)] _ rfl (fun j x hj => ?_)
              match j,hj with
              | 0,hj => simp at hj; subst hj; exact .d (.int _ _)
              | 1,hj => simp at hj; subst hj; exact .d (.bool _)
              | j + 2,hj => simp at hj)
           unfold Instr.lookup
           rw [Sem.run_bind,run_underlying hu]
           simp only [Result.andThen_ok]
           have hf : (Instr.findKey kt (.int kk n) es.toList).run P w = .ok q w := by
            unfold Instr.findKey
            rw [Sem.run_bind,run_underlying hd]
            simp only [Result.andThen_ok]
            rw [g1]
            rfl
           rw [Sem.run_bind,Ms q2]
           simp only [Result.andThen_ok,Sem.run_bind,Sem.run_pure,Iy hc hd,hf]
           cases q with
           | some p =>
             obtain ⟨a,b⟩ := p
             simp only at g2; subst g2
             simp only [Option.isSome_some] at g3
             rw [← g3]
             cases ok <;> rfl
           | none =>
             simp only at g2; subst g2
             simp only [Option.isSome_none] at g3
             rw [← g3]
             have hzv : (zeroValue vt).run P w = .ok (.int k2 r) w := by simp [zeroValue,typeInfo,hinf,hz0]
             simp only [Sem.run_bind,hzv,Result.andThen_ok,Sem.run_pure]
         · cases h
       · cases h
     · cases h
   · cases h
 · cases h
def RepD (hz : Hp) (desc : TypeDesc) (v : Value) (xs : List D) : Prop :=
 if isAggD desc then ∃ arr,v = .agg arr ∧ arr.size = xs.length ∧ IZ hz arr xs else ∃ x,xs = [x] ∧ RelD hz v x
theorem Pi {t : TypeId} {desc : TypeDesc} {info : TypeInfo} (hu : P.underlying t = some desc) (hi : P.info? t = some info) {arr : Array Value} {xs : List D} {off : Nat} (hs : arr.size = xs.length) (hr : IZ hz arr xs) (hl : off + info.size ≤ xs.length) (h1 : (isAggD desc || info.size == 1) = true) :
    ∃ v,(part t arr off).run P w = .ok v w ∧ RepD hz desc v ((xs.drop off).take info.size) := by
 have hagg : (isAgg t).run P w = .ok (isAggD desc) w := by
  unfold isAgg
  rw [Sem.run_bind,run_underlying hu]
  cases desc <;> rfl
 unfold RepD
 cases ha : isAggD desc with
 | true =>
   refine ⟨.agg (arr.extract off (off + info.size)),?_,?_⟩
   · unfold part
     rw [Sem.run_bind,hagg]
     simp only [Result.andThen_ok,ha,if_true]
     rw [Sem.run_bind,show (sizeOf t).run P w = .ok info.size w by simp [sizeOf,typeInfo,hi]]
     rfl
   · simp only [if_true]
     refine ⟨_,rfl,by simp; omega,?_⟩
     intro j y hj
     rw [List.getElem?_take] at hj
     split at hj
     · rename_i hjn
       rw [List.getElem?_drop] at hj
       rw [HU (by omega) hjn]
       exact hr _ y hj
     · cases hj
 | false =>
   rw [ha] at h1
   have h1 : info.size = 1 := by simpa using h1
   have hlt : off < arr.size := by omega
   refine ⟨arr[off],?_,?_⟩
   · unfold part
     rw [Sem.run_bind,hagg]
     simp only [Result.andThen_ok,ha,Bool.false_eq_true,if_false]
     rw [Array.getElem?_eq_getElem hlt]
     rfl
   · simp only [Bool.false_eq_true,if_false]
     have hx : off < xs.length := by omega
     refine ⟨xs[off],?_,?_⟩
     · rw [h1]
       apply List.ext_getElem?
       intro j
       rw [List.getElem?_take,List.getElem?_drop]
       cases j with
       | zero => simp [hx]
       | succ j => simp
     · have := hr off xs[off] (by simp [hx])
       simpa [Array.getD_eq_getD_getElem?,hlt] using this
theorem eqFs_run {q : TypeId → List D → List D → Option Bool} {dm : Nat} (hq : ∀ (t : TypeId) (xs ys : List D) (b : Bool) (desc : TypeDesc) (v u : Value),q t xs ys = some b → P.underlying t = some desc → RepD hz desc v xs → RepD hz desc u ys → (Op.equalIn dm t v u).run P w = .ok b w) :
    ∀ (l : List Field) (xs ys : List D) (b : Bool) (a1 a2 : Array Value),eqFs P q l xs ys = some b → a1.size = xs.length → a2.size = ys.length → IZ hz a1 xs → IZ hz a2 ys →
    (Op.eqFields dm a1 a2 l).run P w = .ok b w
 | [],xs,ys,b,a1,a2,h,_,_,_,_ => by simp [eqFs] at h; subst h; rfl
 | f :: l,xs,ys,b,a1,a2,h,s1,s2,r1,r2 => by
   simp only [eqFs] at h
   simp only [Op.eqFields]
   split at h
   · rename_i hn
     rw [if_neg (by simpa using hn)]
     exact eqFs_run hq l xs ys b a1 a2 h s1 s2 r1 r2
   · rename_i hn
     rw [if_pos (by simpa using hn)]
     split at h
     · rename_i i desc hi hu
       split at h
       · rename_i hc
         simp only [Bool.and_eq_true,decide_eq_true_eq] at hc
         split at h
         · rename_i b1 r hb hr
           simp only [Option.some.injEq] at h; subst h
           obtain ⟨v,hv,rv⟩ := Pi (w := w) hu hi s1 r1 hc.1.1 hc.2
           obtain ⟨u,hu2,ru⟩ := Pi (w := w) hu hi s2 r2 hc.1.2 hc.2
           rw [Sem.run_bind,hv]
           simp only [Result.andThen_ok]
           rw [Sem.run_bind,hu2]
           simp only [Result.andThen_ok]
           rw [Sem.run_bind,hq f.type _ _ b1 desc v u hb hu rv ru]
           simp only [Result.andThen_ok]
           cases b1 with
           | false => rfl
           | true =>
             simp only [Bool.not_true,Bool.false_eq_true,if_false,Bool.true_and]
             exact eqFs_run hq l xs ys r a1 a2 hr s1 s2 r1 r2
         · cases h
       · cases h
     · cases h
theorem eqD_run (m : Nat) : ∀ (d : Nat) (t : TypeId) (xs ys : List D) (b : Bool) (desc : TypeDesc) (v u : Value),eqD P d t xs ys = some b → P.underlying t = some desc → RepD hz desc v xs → RepD hz desc u ys →
    (Op.equalIn (d + m) t v u).run P w = .ok b w
 | 0,t,xs,ys,b,desc,v,u,h,_,_,_ => by simp [eqD] at h
 | d + 1,t,xs,ys,b,desc,v,u,h,hu,hv,hw => by
   rw [Nat.add_right_comm]
   unfold eqD at h
   split at h
   · rename_i k0 k a k' b' hu'
     rw [hu] at hu'; cases hu'
     split at h
     · rename_i hk; subst hk
       cases h
       obtain ⟨x,hx,hv⟩ := hv; cases hx; cases hv
       obtain ⟨x,hx,hw⟩ := hw; cases hx; cases hw
       exact run_equalIn_int w _ t k _ a b' hu
     · cases h
   · rename_i a b' hu'
     rw [hu] at hu'; cases hu'
     cases h
     obtain ⟨x,hx,hv⟩ := hv; cases hx; cases hv
     obtain ⟨x,hx,hw⟩ := hw; cases hx; cases hw
     exact run_equalIn_bool' w _ t a b' hu
   · rename_i a b' hu'
     rw [hu] at hu'; cases hu'
     cases h
     obtain ⟨x,hx,hv⟩ := hv; cases hx; cases hv
     obtain ⟨x,hx,hw⟩ := hw; cases hx; cases hw
     exact run_equalIn_string w _ t a b' hu
   · rename_i xs' ys' fs hu'
     rw [hu] at hu'; cases hu'
     split at h
     · cases h
     · rename_i hst
       obtain ⟨a1,rfl,s1,r1⟩ := hv
       obtain ⟨a2,rfl,s2,r2⟩ := hw
       have hfo : P.fieldsOf t = fs := by simp [Program.fieldsOf,hu]
       rw [run_equalIn_struct w (d + m) t a1 a2 (by rw [hfo]; exact hu) (by simpa using hst),hfo]
       exact eqFs_run (eqD_run m d) fs.toList _ _ b a1 a2 h s1 s2 r1 r2
   · cases h
theorem agg_rep {v : Value} {xs : List PV} {a : List D} (hx : RelV hz φ v (.agg xs)) (ha : toDs xs = some a) : ∃ arr,v = .agg arr ∧ arr.size = a.length ∧ IZ hz arr a := by
 cases hx with
 | agg arr _ hs hr => exact ⟨arr,rfl,by rw [(toDs_get ha).1]; exact hs,relCells_ds hr ha⟩
theorem aEqS_run {op : BinOp} {T : TypeId} {x y : PV} {v u : Value} {r : PV × List Prop} (xo yo : Operand) (hx : RelV hz φ v x) (hy : RelV hz φ u y) (h : aEqS P op T x y = some r) :
    ∃ z,(do eqGuard op T xo yo v u; binOp op T v u : Sem Value).run P w = .ok z w ∧ RelV hz φ z r.1 := by
 unfold aEqS at h
 split at h
 · rename_i xs ys hg
   split at h
   · rename_i a b ha hb
     obtain ⟨a1,rfl,s1,r1⟩ := agg_rep hx ha
     obtain ⟨a2,rfl,s2,r2⟩ := agg_rep hy hb
     have guard : ∀ op,(eqGuard op T xo yo (.agg a1) (.agg a2)).run P w = .ok () w := by
      intro op
      cases op <;> simp [eqGuard,hg]
     split at h
     · rename_i b' fs hq hu
       cases h
       have := eqD_run (w := w) 9984 16 T a b b' _ (.agg a1) (.agg a2) hq hu ⟨a1,rfl,s1,r1⟩ ⟨a2,rfl,s2,r2⟩
       refine ⟨.bool b',?_,.d (.bool _)⟩
       rw [Sem.run_bind,guard]; simp only [Result.andThen_ok,binOp]; rw [Sem.run_bind,show (Op.equal T (.agg a1) (.agg a2)).run P w = .ok b' w from this]; rfl
     · rename_i b' fs hq hu
       cases h
       have := eqD_run (w := w) 9984 16 T a b b' _ (.agg a1) (.agg a2) hq hu ⟨a1,rfl,s1,r1⟩ ⟨a2,rfl,s2,r2⟩
       refine ⟨.bool !b',?_,.d (.bool _)⟩
       rw [Sem.run_bind,guard]; simp only [Result.andThen_ok,binOp]; rw [Sem.run_bind,show (Op.equal T (.agg a1) (.agg a2)).run P w = .ok b' w from this]; rfl
     · cases h
   · cases h
 · cases h
theorem two_agg {v : Value} {k : IntKind} {a b : Int} (h : RelV hz φ v (.dagg [.int k a,.int k b])) : v = .agg #[.int k a,.int k b] := by
 cases h with
 | dagg arr _ hs hr =>
   have h0 := hr 0 _ rfl
   have h1 := hr 1 _ rfl
   obtain ⟨l⟩ := arr
   match l,hs with
   | [x,y],_ =>
     simp at h0 h1
     cases h0; cases h1; rfl
theorem aEqA_run {op : BinOp} {T : TypeId} {x y : PV} {v u : Value} {r : PV × List Prop} (xo yo : Operand) (hx : RelV hz φ v x) (hy : RelV hz φ u y) (h : aEqA P op T x y = some r) (ho : ∀ p ∈ r.2,p) :
    ∃ z,(do eqGuard op T xo yo v u; binOp op T v u : Sem Value).run P w = .ok z w ∧ RelV hz φ z r.1 := by
 unfold aEqA at h
 split at h
 · rename_i xs ys e hg hu
   split at h
   · rename_i kk info hue hi
     split at h
     · rename_i h1
       have two : SV xs ys := by
        cases op <;> simp only [Option.some.injEq,reduceCtorEq] at h
        · subst h; exact ho _ (List.mem_singleton.2 rfl)
        · subst h; exact ho _ (List.mem_singleton.2 rfl)
       obtain ⟨k,a,b,c,d,rfl,rfl⟩ := two
       have := two_agg hx; subst this
       have := two_agg hy; subst this
       have guard : ∀ op,(eqGuard op T xo yo (.agg #[.int k a,.int k b]) (.agg #[.int k c,.int k d])).run P w = .ok () w := by
        intro op
        cases op <;> simp [eqGuard,hg]
       have hagg : (isAgg e).run P w = .ok false w := by
        unfold isAgg
        rw [Sem.run_bind,run_underlying hue]
        rfl
       have hsz : (sizeOf e).run P w = .ok 1 w := by simp [sizeOf,typeInfo,hi,h1]
       have hp : ∀ (arr : Array Value) (i : Nat) (x : Value),arr[i]? = some x → (part e arr i).run P w = .ok x w := by
        intro arr i x hx
        unfold part
        rw [Sem.run_bind,hagg]
        simp only [Result.andThen_ok,Bool.false_eq_true,if_false]
        rw [hx]
        rfl
       have heq : (Op.equal T (.agg #[.int k a,.int k b]) (.agg #[.int k c,.int k d])).run P w = .ok ((a == c) && (b == d)) w := by
        have h : ∀ m : Nat,(Op.equalIn (m + 2) T (.agg #[.int k a,.int k b]) (.agg #[.int k c,.int k d])).run P w = .ok ((a == c) && (b == d)) w := by
         intro m
         have i1 := run_equalIn_int (P := P) w m e k kk a c hue
         have i2 := run_equalIn_int (P := P) w m e k kk b d hue
         have p1 := hp #[.int k a,.int k b] 0 (.int k a) rfl
         have p2 := hp #[.int k a,.int k b] 1 (.int k b) rfl
         have p3 := hp #[.int k c,.int k d] 0 (.int k c) rfl
         have p4 := hp #[.int k c,.int k d] 1 (.int k d) rfl
         rw [Op.equalIn,Sem.run_bind,run_underlying hu]
         simp only [Result.andThen_ok]
         rw [Sem.run_bind,hsz]
         simp only [Result.andThen_ok]
         simp only [Std.Legacy.Range.forIn_eq_forIn_range',Std.Legacy.Range.size]
         cases h1 : (a == c) <;> cases h2 : (b == d) <;> simp [List.range',i1,i2,p1,p2,p3,p4,h1,h2]
        exact h 9998
       cases op <;> simp only [Option.some.injEq,reduceCtorEq] at h
       · subst h
         refine ⟨.bool _,?_,.d (.bool _)⟩
         rw [Sem.run_bind,guard]; simp only [Result.andThen_ok,binOp]; rw [Sem.run_bind,heq]; rfl
       · subst h
         refine ⟨.bool _,?_,.d (.bool _)⟩
         rw [Sem.run_bind,guard]; simp only [Result.andThen_ok,binOp]; rw [Sem.run_bind,heq]; rfl
     · cases h
   · cases h
 · cases h
theorem aEqX_run {op : BinOp} {T : TypeId} {x y : PV} {v u : Value} {r : PV × List Prop} (xo yo : Operand) (hx : RelV hz φ v x) (hy : RelV hz φ u y) (h : aEqX P op T x y = some r) (ho : ∀ p ∈ r.2,p) :
    ∃ z,(do eqGuard op T xo yo v u; binOp op T v u : Sem Value).run P w = .ok z w ∧ RelV hz φ z r.1 := by
 unfold aEqX at h
 split at h
 · rename_i q hq; cases h; exact aEq_run xo yo hx hy hq
 · split at h
   · rename_i q hq; cases h; exact aEqS_run xo yo hx hy hq
   · exact aEqA_run xo yo hx hy h ho
end
end Go.Ab
