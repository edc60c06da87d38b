/- append; []byte(s), string(b). -/
import Derived.Test.YtgldclhdieafkaaGreatAbStep5
namespace Go.Ab
open Go.RowKit
section
variable {P : Program} {E : Entry} {w : World} {hz : Hp} {φ : Phi} {σ : List AObj}
theorem J0 (z : Array Value) (n : Nat) : (Builtin.zeroCells z n).size = n * z.size := by simp [Builtin.zeroCells]
theorem Jc {olds news rest : List Value} {cs ys : List D} (h1 : olds.length = cs.length) (h2 : news.length = ys.length) (hr : ∀ (j : Nat) (y : D),cs[j]? = some y → ∃ u : Value,olds[j]? = some u ∧ RelD hz u y)
    (hn : ∀ (j : Nat) (y : D),ys[j]? = some y → ∃ u : Value,news[j]? = some u ∧ RelD hz u y) : IZ hz (olds ++ news ++ rest).toArray (cs ++ ys) := by
 intro j y hj
 rcases Nat.lt_or_ge j cs.length with hlt | hge
 · rw [List.getElem?_append_left hlt] at hj
   obtain ⟨u,hu,hd⟩ := hr j y hj
   have : (olds ++ news ++ rest)[j]? = some u := by rw [List.append_assoc,List.getElem?_append_left (by omega)]; exact hu
   simp only [Array.getD_eq_getD_getElem?,List.getElem?_toArray,this,Option.getD_some]
   exact hd
 · rw [List.getElem?_append_right hge] at hj
   obtain ⟨u,hu,hd⟩ := hn _ y hj
   have hl := AL hj
   have : (olds ++ news ++ rest)[j]? = some u := by
    rw [List.getElem?_append_left (by simp; omega),List.getElem?_append_right (by omega),h1]; exact hu
   simp only [Array.getD_eq_getD_getElem?,List.getElem?_toArray,this,Option.getD_some]
   exact hd
theorem Mr (olds news : List Value) (z : Value) (k : Nat) : (olds.toArray ++ news.toArray ++ Builtin.zeroCells z.cells k) = (olds ++ news ++ (Builtin.zeroCells z.cells k).toList).toArray := by
 apply Array.ext'; simp
theorem Ot {t u ty : TypeId} {s x : PV} {vs vx : Value} {out : Out} (hM : Mem E hz φ σ w) (hs : RelV hz φ vs s) (hx : RelV hz φ vx x) (h : MF P t u s x σ = some out) (ho : ∀ p ∈ out.obl,p) :
    Good P E (do pure (.value (← Builtin.append_ #[t,u] ty #[vs,vx]))) w hz φ out := by
 unfold MF at h
 split at h
 · rename_i e hu
   split at h
   · rename_i info hi
     split at h
     · rename_i z m ys obl hz0 hsrc
       split at h
       · rename_i hcond
         simp at hcond
         obtain ⟨⟨hsrcT,hzs⟩,hpos⟩ := hcond
         have hst := isSrc_spec hsrcT
         split at h
         · rename_i i n
           split at h
           · rename_i e' sz cs hobj
             split at h
             · rename_i he
               simp at he
               obtain ⟨rfl,rfl⟩ := he
               simp only [Option.some.injEq] at h; subst h
               obtain ⟨o1,o2,o3⟩ := ho _ (List.mem_cons_self ..)
               obtain ⟨news,g1,g2,g3,g4,g5⟩ := srcD_gives (P := P) hM hx hsrc (fun p hp => ho p (List.mem_cons_of_mem _ hp))
               have hsub : ∀ {φ' : Phi},(∀ j x,j ≠ i → φ j = some x → φ' j = some x) → ∀ u x,RelV hz φ u x → RelV hz φ' u (x.effs (some (i,fun _ => PV.undef))) :=
                fun hφ u x hr => RelV.sub (Hp.le_refl _) hφ (fun _ _ _ => .undef _) hr
               have hmax : n + m ≤ maxLen := by unfold maxLen; omega
               have grow : ∀ (sa : Option Addr) (cap : Nat) (olds : List Value),vs = .slice sa n cap → MH P w info.size (.slice sa n cap) n olds → olds.length = cs.length → (∀ (j : Nat) (y : D),cs[j]? = some y → ∃ u : Value,olds[j]? = some u ∧ RelD hz u y) → cap < n + m →
                   Good P E (do pure (.value (← Builtin.append_ #[t,u] ty #[vs,vx]))) w hz φ ⟨.row i (n + m),(σ.map (AObj.sub i fun _ => .undef)).set i (.row e' info.size (cs ++ ys)),some (i,fun _ => .undef),(cs.length = n * info.size ∧ n + m ≤ 281474976710656 ∧ (n + m) * info.bytes ≤ 140737488355328) :: obl⟩ := by
                intro sa cap olds hv hg hol hor hcap
                subst hv
                have hr := HL (P := P) w t u ty e' info z hu hst hi hz0 sa n cap olds hg vx m news g1 hcap (by omega) o3
                rw [Mr] at hr
                have hM1 : Mem E hz φ σ w.drew := hM.same rfl rfl rfl rfl
                have hge := grownCap_ge w (n + m) cap e'
                have hle := grownCap_le_maxLen w (n + m) cap e' hmax
                obtain ⟨φ',q1,q2,q3⟩ := hM1.move hobj (.cells (olds ++ news ++ (Builtin.zeroCells z.cells (grownCap w (n + m) cap e' - (n + m))).toList).toArray e') (grownCap w (n + m) cap e') hle (.row e' info.size (cs ++ ys)) (fun φ' hp => by
                 refine .inr ⟨w.heap.size,_,_,(0,0),hp,Fl w.drew _,by simp,hle,?_,?_,Jc hol (by omega) hor g5,hM.fresh⟩
                 · simp only [List.size_toArray,List.length_append,Array.length_toList,J0,hzs,hol,o1,g2,← Nat.add_mul]
                   refine Nat.le_of_eq ?_
                   congr 1; omega
                 · simp only [List.size_toArray,List.length_append]; omega)
                exact ⟨_,_,_,hz,φ',by rw [Sem.run_bind,hr]; rfl,.inl rfl,q3,.row _ _ _ _ q1 hge hle,hsub q2⟩
               rcases hM.objs _ _ hobj with ⟨h1,rfl⟩ | ⟨g,cap,arr,fr,h1,h2,h3,h4,h5,h6,h7,h8⟩
               · cases hs with
                 | row _ _ g cap hp => rw [h1] at hp; simp at hp
                 | rowNil _ an =>
                   by_cases hm0 : m = 0
                   · subst hm0
                     have hy0 : ys = [] := List.eq_nil_of_length_eq_zero (by simpa using g3)
                     subst hy0
                     refine ⟨_,.slice an 0 0,w,hz,φ,?_,.inl rfl,?_,.rowNil _ an h1,hsub (fun _ _ _ h => h)⟩
                     · have hfc := g1.2 w rfl
                       have hn0 : news = [] := List.eq_nil_of_length_eq_zero (by simpa using g2)
                       rw [hn0] at hfc
                       have : (Builtin.append_ #[t,u] ty #[.slice an 0 0,vx]).run P w = .ok (.slice an 0 0) w := by
                        cases an <;> rcases hst with ⟨e2,hu2⟩ | hu2 <;> simp [Builtin.append_,run_underlying hu,run_underlying hu2,sizeOf,typeInfo,hi,g1.1,hfc,storeCells]
                       rw [Sem.run_bind,this]; rfl
                     ·
                      have hM' := hM
                      exact
                      { knows := hM.knows
                        objs := fun j x hx => by
                         rcases get_set_sub hx with ⟨rfl,rfl⟩ | ⟨hne,y,hy,rfl⟩
                         · exact .inl ⟨h1,rfl⟩
                         · exact (hM.objs j y hy).put hne (Hp.le_refl _) (fun _ _ _ h => h) (fun _ _ _ => .undef _) (fun _ _ _ _ _ hn => ⟨rfl,hn⟩)
                        inj := fun a b oa ob g c1 c2 ha hb la lb pa pb => by
                         rcases get_set_sub ha with ⟨ea,rfl⟩ | ⟨na,ya,hya,rfl⟩
                         · rw [ea,h1] at pa; simp at pa
                         rcases get_set_sub hb with ⟨eb,rfl⟩ | ⟨nb,yb,hyb,rfl⟩
                         · rw [eb,h1] at pb; simp at pb
                         exact hM.inj a b ya yb g c1 c2 hya hyb (by rw [← sub_live]; exact la) (by rw [← sub_live]; exact lb) pa pb
                        new := fun a x g c1 ha la pa => by
                         rcases get_set_sub ha with ⟨ea,rfl⟩ | ⟨na,ya,hya,rfl⟩
                         · rw [ea,h1] at pa; simp at pa
                         exact hM.new a ya g c1 hya (by rw [← sub_live]; exact la) pa
                        dom := fun j hj => hM.dom j (by simpa using hj)
                        caps := hM.caps
                        os := hM.os,tape := hM.tape,output := hM.output,size := hM.size,kept := hM.kept,hle := hM.hle,hnew := hM.hnew }
                   · exact grow an 0 [] rfl (Js w _ an 0) rfl (by simp) (by omega)
               · cases hs with
                 | rowNil _ _ hp => rw [h1] at hp; simp at hp
                 | row _ _ g' cap' hp hn hm =>
                   rw [h1] at hp; simp at hp; obtain ⟨rfl,rfl⟩ := hp
                   have holds : ∀ (j : Nat) (y : D),cs[j]? = some y → ∃ u : Value,(arr.toList.take (n * info.size))[j]? = some u ∧ RelD hz u y := by
                    intro j y hj
                    have hjl := AL hj
                    have hja : j < arr.size := by omega
                    refine ⟨arr[j],?_,?_⟩
                    · rw [List.getElem?_take,if_pos (by omega)]; simp [hja]
                    · simpa [Array.getD_eq_getD_getElem?,hja] using h7 j y hj
                   by_cases hroom : n + m ≤ cap
                   · have hfit : n * info.size + news.length ≤ arr.size := by
                       rw [g2,← Nat.add_mul]; exact Nat.le_trans (Nat.mul_le_mul_right _ hroom) h5
                     have hr := KT (P := P) w t u ty e' info hu hst hi g n cap fr arr h2 h3 vx m news g1 g4 hroom hfit
                     refine ⟨_,_,_,hz,φ,by rw [Sem.run_bind,hr]; rfl,.inl rfl,?_,.row _ _ _ _ h1 hroom hm,hsub (fun _ _ _ h => h)⟩
                     refine hM.writeRow hobj rfl rfl h1 (fun k hk => setRow_other w g k _ hk) (by simp) rfl rfl rfl ?_
                     have hsame : (arr.toList.take (n * info.size) ++ news ++ arr.toList.drop (n * info.size + news.length)).toArray.size = arr.size := by simp; omega
                     refine .inr ⟨g,cap,_,fr,h1,setRow_heap w g arr _ e' _ h2,?_,h4,by rw [hsame]; exact h5,?_,Jc (by simp; omega) (by omega) holds g5,h8⟩
                     · rw [hsame]; exact h3
                     · rw [hsame]; simp; omega
                   · refine grow (some ⟨g,0,none⟩) cap (arr.toList.take (n * info.size)) rfl (JG w _ g 0 e' fr arr n cap _ h2 (by simp; omega) ?_) (by simp; omega) holds (by omega)
                     intro j v hj
                     rw [List.getElem?_take] at hj
                     split at hj
                     · simpa using hj
                     · cases hj
             · cases h
           · cases h
         · rename_i n xs
           simp only [Option.some.injEq] at h; subst h
           obtain ⟨o1,o0,o2,o3⟩ := ho _ (List.mem_cons_self ..)
           obtain ⟨news,g1,g2,g3,g4,g5⟩ := srcD_gives (P := P) hM hx hsrc (fun p hp => ho p (List.mem_cons_of_mem _ hp))
           have hmax : n + m ≤ maxLen := by unfold maxLen; omega
           have fin : ∀ (sa : Option Addr) (cap : Nat) (olds : List Value),vs = .slice sa n cap → MH P w info.size (.slice sa n cap) n olds → olds.length = xs.length → (∀ (j : Nat) (y : D),xs[j]? = some y → ∃ u : Value,olds[j]? = some u ∧ RelD hz u y) → cap < n + m →
               Good P E (do pure (.value (← Builtin.append_ #[t,u] ty #[vs,vx]))) w hz φ ⟨.row σ.length (n + m),σ ++ [.row e info.size (xs ++ ys)],none,(xs.length = n * info.size ∧ (0 < m ∨ n = 0) ∧ n + m ≤ 281474976710656 ∧ (n + m) * info.bytes ≤ 140737488355328) :: obl⟩ := by
            intro sa cap olds hv hg hol hor hcap
            subst hv
            have hr := HL (P := P) w t u ty e info z hu hst hi hz0 sa n cap olds hg vx m news g1 hcap (by omega) o3
            rw [Mr] at hr
            have hge := grownCap_ge w (n + m) cap e
            have hle := grownCap_le_maxLen w (n + m) cap e hmax
            refine good_new (w1 := w.drew) hM ⟨rfl,rfl,rfl,rfl⟩ hr (Mi rfl e info.size (fr := (0,0)) (cap := grownCap w (n + m) cap e) (by simp) hle ?_ ?_ (Jc hol (by omega) hor g5) hM.fresh) (fun φ' hp => .row _ _ _ _ hp hge hle)
            · simp only [List.size_toArray,List.length_append,Array.length_toList,J0,hzs,hol,o1,g2,← Nat.add_mul]
              congr 1; omega
            · simp only [List.size_toArray,List.length_append]; omega
           by_cases hm0 : m = 0
           ·
            have hn0 : n = 0 := by omega
            subst hm0; subst hn0
            have hx0 : xs = [] := List.eq_nil_of_length_eq_zero (by simpa using o1)
            have hy0 : ys = [] := List.eq_nil_of_length_eq_zero (by simpa using g3)
            have hw0 : news = [] := List.eq_nil_of_length_eq_zero (by simpa using g2)
            subst hx0; subst hy0; subst hw0
            have hv : ∃ a,vs = .slice a 0 0 := by
             cases hs with
             | d hd =>
             cases hd with
             | list0 a cap _ ht hm => have := ht rfl; subst this; exact ⟨a,rfl⟩
             | list g off _ cap _ _ arr e2 fr f hg hn hm ht hx2 hr2 => have := ht rfl; subst this; exact ⟨_,rfl⟩
            obtain ⟨an,rfl⟩ := hv
            have hfc := g1.2 w rfl
            have hrun : (Builtin.append_ #[t,u] ty #[.slice an 0 0,vx]).run P w = .ok (.slice an 0 0) w := by
             cases an <;> rcases hst with ⟨e2,hu2⟩ | hu2 <;> simp [Builtin.append_,run_underlying hu,run_underlying hu2,sizeOf,typeInfo,hi,g1.1,hfc,storeCells]
            obtain ⟨φ',p1,p2,p3⟩ := hM.allocNil e info.size
            exact ⟨_,.slice an 0 0,w,hz,φ',by rw [Sem.run_bind,hrun]; rfl,.inl rfl,p3,.rowNil _ an p2,fun u x hx => hx.mono (Hp.le_refl _) p1⟩
           cases hs with
           | d hd =>
           cases hd with
           | list0 a cap _ ht hm =>
             have := ht rfl
             subst this
             exact fin a 0 [] rfl (Js w _ a 0) (by simp) (by simp) (by omega)
           | list g off _ cap _ _ arr e2 fr f hg hn hm ht hx2 hr2 =>
             have := ht rfl
             subst this
             refine fin (some ⟨g,off,none⟩) cap ((List.range xs.length).map f) rfl (JG w _ g off e2 fr arr cap cap _ (hM.knows _ _ hg) (by simp [o1]) ?_) (by simp) ?_ (by omega)
             · intro j v hj
               rw [List.getElem?_map] at hj
               by_cases hjl : j < xs.length
               · rw [List.getElem?_range hjl] at hj
                 simp at hj; subst hj
                 exact hx2 j xs[j] (List.getElem?_eq_getElem hjl)
               · rw [List.getElem?_eq_none (by simp; omega)] at hj; cases hj
             · intro j y hj
               have hjl := AL hj
               exact ⟨f j,by simp [hjl],hr2 j y hj⟩
         · cases h
       · cases h
     · cases h
   · cases h
 · cases h
def addH (hz : Hp) (k : Nat) (o : Obj) : Hp := fun g => if g = k then some o else hz g
theorem ST {hz : Hp} {k : Nat} {o : Obj} (h : hz k = none) : Hp.le hz (addH hz k o) := fun g x hg => by
 unfold addH
 split
 · rename_i e; subst e; rw [h] at hg; cases hg
 · exact hg
theorem Mem.callD {hz' : Hp} {w' : World} (hM : Mem E hz φ σ w) (hk : ∀ g o,hz' g = some o → w'.heap[g]? = some o) (hle : Hp.le hz hz') (hnew : ∀ g o,hz' g = some o → hz g = some o ∨ w.heap.size ≤ g) (hb : Below w.heap.size w w') : Mem E hz' φ σ w' :=
 { knows := hk
   objs := fun i o hi => (hM.objs i o hi).tr hle (Phi.le_refl _) (fun g c _ _ hn hz0 => by
    have hlt : g < w.heap.size := by
     rcases Nat.lt_or_ge g w.heap.size with h | h
     · exact h
     · exact absurd (Array.getElem?_eq_none h) hn
    refine ⟨hb.block g hlt,?_⟩
    cases hq : hz' g with
    | none => rfl
    | some o => rcases hnew g o hq with h | h
                · rw [hz0] at h; cases h
                · omega)
   inj := hM.inj,new := hM.new,dom := hM.dom,caps := hM.caps
   os := hb.os.trans hM.os,tape := hb.tape.trans hM.tape,output := hb.output.trans hM.output
   size := Nat.le_trans hM.size hb.size
   kept := fun k a b => (hb.block k (Nat.lt_of_lt_of_le a hM.size)).trans (hM.kept k a b)
   hle := Hp.le_trans hM.hle hle
   hnew := fun g o hg => by
    rcases hnew g o hg with h | h
    · exact hM.hnew g o h
    · exact .inr (.inl (Nat.le_trans hM.size h)) }
def aAppendD (P : Program) (t u : TypeId) (s x : PV) (σ : List AObj) : Option Out :=
 match P.underlying t with
 | some (.slice e) =>
   match P.info? e with
   | some info =>
     match info.zero,srcD σ info.size x with
     | some z,some (m,ys,obl) =>
       if RC P u && (z.cells.size = info.size) && (0 < info.size) then
        match s with
        | .d (.list true n xs) => some ⟨.d (.list false (n + m) (xs ++ ys)),σ,none,(xs.length = n * info.size ∧ n + m ≤ 281474976710656 ∧ (n + m) * info.bytes ≤ 140737488355328) :: obl⟩
        | _ => none
       else none
     | _,_ => none
   | none => none
 | _ => none
theorem NC {t u ty : TypeId} {s x : PV} {vs vx : Value} {out : Out} (hM : Mem E hz φ σ w) (hs : RelV hz φ vs s) (hx : RelV hz φ vx x) (h : aAppendD P t u s x σ = some out) (ho : ∀ p ∈ out.obl,p) :
    Good P E (do pure (.value (← Builtin.append_ #[t,u] ty #[vs,vx]))) w hz φ out := by
 unfold aAppendD at h
 split at h
 · rename_i e hu
   split at h
   · rename_i info hi
     split at h
     · rename_i z m ys obl hz0 hsrc
       split at h
       · rename_i hcond
         simp at hcond
         obtain ⟨⟨hsrcT,hzs⟩,hpos⟩ := hcond
         have hst := isSrc_spec hsrcT
         split at h
         · rename_i n xs
           simp only [Option.some.injEq] at h; subst h
           obtain ⟨o1,o2,o3⟩ := ho _ (List.mem_cons_self ..)
           obtain ⟨news,g1,g2,g3,g4,g5⟩ := srcD_gives (P := P) hM hx hsrc (fun p hp => ho p (List.mem_cons_of_mem _ hp))
           have hmax : n + m ≤ maxLen := by unfold maxLen; omega
           have fin : ∀ (sa : Option Addr) (cap : Nat) (olds : List Value),vs = .slice sa n cap → MH P w info.size (.slice sa n cap) n olds → olds.length = xs.length → (∀ (j : Nat) (y : D),xs[j]? = some y → ∃ u : Value,olds[j]? = some u ∧ RelD hz u y) → cap < n + m →
               Good P E (do pure (.value (← Builtin.append_ #[t,u] ty #[vs,vx]))) w hz φ ⟨.d (.list false (n + m) (xs ++ ys)),σ,none,(xs.length = n * info.size ∧ n + m ≤ 281474976710656 ∧ (n + m) * info.bytes ≤ 140737488355328) :: obl⟩ := by
            intro sa cap olds hv hg hol hor hcap
            subst hv
            have hr := HL (P := P) w t u ty e info z hu hst hi hz0 sa n cap olds hg vx m news g1 hcap (by omega) o3
            rw [Mr] at hr
            have hge := grownCap_ge w (n + m) cap e
            have hle := grownCap_le_maxLen w (n + m) cap e hmax
            have hrel := Jc (rest := (Builtin.zeroCells z.cells (grownCap w (n + m) cap e - (n + m))).toList) hol (by omega) hor g5
            generalize harr : (olds ++ news ++ (Builtin.zeroCells z.cells (grownCap w (n + m) cap e - (n + m))).toList).toArray = arr at hr hrel
            have hfr : hz w.heap.size = none := hM.fresh
            have hzle : Hp.le hz (addH hz w.heap.size (.cells arr e)) := ST hfr
            have hb : Below w.heap.size w (w.drew.alloc (.cells arr e)) := (Below.refl _ w).drew.alloc (Nat.le_refl _) _
            have hrs : IZ (addH hz w.heap.size (.cells arr e)) arr (xs ++ ys) := fun j x hj => (hrel j x hj).mono hzle
            have hsz : (xs ++ ys).length ≤ arr.size := by
             rw [← harr]
             simp only [List.size_toArray,List.length_append]; omega
            refine ⟨_,_,_,addH hz w.heap.size (.cells arr e),φ,by rw [Sem.run_bind,hr]; rfl,.inl rfl,hM.callD (fun g o hg => ?_) hzle (fun g o hg => ?_) hb,.d (.list w.heap.size 0 (n + m) _ false (xs ++ ys) arr e (0,0) (fun j => arr.getD j undef) (if_pos rfl) hge hle (fun h => by cases h) (fun j x hj => ?_) (fun j x hj => hrs j x hj)),fun u x hx => hx.mono hzle (Phi.le_refl _)⟩
            · unfold addH at hg
              split at hg
              · rename_i e1; subst e1; cases hg; exact Fl w.drew _
              · have := hM.knows g o hg
                rw [hb.block g (lt_of_get this)]; exact this
            · unfold addH at hg
              split at hg
              · rename_i e1; exact .inr (by omega)
              · exact .inl hg
            · have hjl := AL hj
              rw [Nat.zero_add]
              simp [Array.getD_eq_getD_getElem?,show j < arr.size by omega]
           by_cases hm0 : m = 0
           · subst hm0
             have hy0 : ys = [] := List.eq_nil_of_length_eq_zero (by simpa using g3)
             have hw0 : news = [] := List.eq_nil_of_length_eq_zero (by simpa using g2)
             subst hy0; subst hw0
             have hfc := g1.2 w rfl
             have hsame : RelV hz φ vs (.d (.list false (n + 0) (xs ++ []))) := by
              rw [List.append_nil,Nat.add_zero]
              cases hs with
              | d hd => exact .d hd.loose
             have hv : ∃ a cap,vs = .slice a n cap ∧ n ≤ cap := by
              cases hs with
              | d hd =>
              cases hd with
              | list0 a cap _ ht hm => exact ⟨a,cap,rfl,Nat.zero_le _⟩
              | list g off _ cap _ _ arr e2 fr f hg hn hm ht hx2 hr2 => exact ⟨_,_,rfl,hn⟩
             obtain ⟨an,cap,rfl,hcap⟩ := hv
             have hrun : (Builtin.append_ #[t,u] ty #[.slice an n cap,vx]).run P w = .ok (.slice an n cap) w := by
              cases an <;> rcases hst with ⟨e2,hu2⟩ | hu2 <;> simp [Builtin.append_,run_underlying hu,run_underlying hu2,sizeOf,typeInfo,hi,g1.1,hfc,storeCells,hcap]
             exact ⟨_,_,w,hz,φ,by rw [Sem.run_bind,hrun]; rfl,.inl rfl,hM,hsame,fun u x hx => hx.mono (Hp.le_refl _) (Phi.le_refl _)⟩
           · cases hs with
             | d hd =>
             cases hd with
             | list0 a cap _ ht hm =>
               have := ht rfl
               subst this
               exact fin a 0 [] rfl (Js w _ a 0) (by simp) (by simp) (by omega)
             | list g off _ cap _ _ arr e2 fr f hg hn hm ht hx2 hr2 =>
               have := ht rfl
               subst this
               refine fin (some ⟨g,off,none⟩) cap ((List.range xs.length).map f) rfl (JG w _ g off e2 fr arr cap cap _ (hM.knows _ _ hg) (by simp [o1]) ?_) (by simp) ?_ (by omega)
               · intro j v hj
                 rw [List.getElem?_map] at hj
                 by_cases hjl : j < xs.length
                 · rw [List.getElem?_range hjl] at hj
                   simp at hj; subst hj
                   exact hx2 j xs[j] (List.getElem?_eq_getElem hjl)
                 · rw [List.getElem?_eq_none (by simp; omega)] at hj; cases hj
               · intro j y hj
                 have hjl := AL hj
                 exact ⟨f j,by simp [hjl],hr2 j y hj⟩
         · cases h
       · cases h
     · cases h
   · cases h
 · cases h
def aAppendX (P : Program) (t u : TypeId) (s x : PV) (σ : List AObj) (orc : Orc) : Option Out :=
 match orc with
 | .val _ => aAppendD P t u s x σ
 | _ => MF P t u s x σ
theorem NB {t u ty : TypeId} {s x : PV} {vs vx : Value} {orc : Orc} {out : Out} (hM : Mem E hz φ σ w) (hs : RelV hz φ vs s) (hx : RelV hz φ vx x) (h : aAppendX P t u s x σ orc = some out) (ho : ∀ p ∈ out.obl,p) :
    Good P E (do pure (.value (← Builtin.append_ #[t,u] ty #[vs,vx]))) w hz φ out := by
 unfold aAppendX at h
 split at h
 · exact NC hM hs hx h ho
 · exact Ot hM hs hx h ho
theorem P3 (w : World) (arr : Array Value) (e : TypeId) : (w.alloc (.cells arr e)).freeze ⟨w.heap.size,arr.size,none⟩ 1 = w.alloc (.cells arr e (arr.size,arr.size + 1)) := by
 have key : ∀ f : Obj → Obj,f (.cells arr e) = .cells arr e (arr.size,arr.size + 1) → (w.heap.push (.cells arr e)).modify w.heap.size f = w.heap.push (.cells arr e (arr.size,arr.size + 1)) := by
  intro f hf
  apply Array.ext
  · simp
  · intro k h1 h2
    simp only [Array.getElem_modify]
    by_cases hk : w.heap.size = k
    · subst hk
      simp [hf]
    · rw [if_neg hk]
      have hlt : k < w.heap.size := by simp at h2; omega
      rw [Array.getElem_push_lt hlt,Array.getElem_push_lt hlt]
 unfold World.freeze
 rw [if_neg (by decide)]
 simp only [World.alloc]
 rw [key _ (by simp)]
theorem Nz {s d : TypeId} {x : PV} {v : Value} {orc : Orc} {out : Out} (hM : Mem E hz φ σ w) (hx : RelV hz φ v x) (h : NA P s d x σ orc = some out) (ho : ∀ p ∈ out.obl,p) :
    Good P E (do pure (.value (← convert s d v))) w hz φ out := by
 unfold NA at h
 split at h
 · rename_i ds k k' n hs hd
   simp only [Option.some.injEq] at h; subst h
   have := hx.inv_int; subst this
   refine good_v hM ?_ (.d (.int k (k.wrap n)))
   unfold convert
   rw [Sem.run_bind,run_underlying hs]
   simp only [Result.andThen_ok]
   rw [Sem.run_bind,run_underlying hd]
   cases ds <;> rfl
 · rename_i ds e b hs hd
   split at h
   · rename_i info he hi
     split at h
     · rename_i h1
       simp only [Option.some.injEq] at h; subst h
       have o1 : b.size ≤ 281474976710656 := ho _ (by simp)
       have := hx.inv_str; subst this
       have hcap : b.size ≤ grownCap w b.size 0 e := grownCap_ge w b.size 0 e
       have hmax := grownCap_le_maxLen w b.size 0 e (by unfold maxLen; omega)
       have hrun : (convert s d (.string b)).run P w = .ok (.slice (some ⟨w.heap.size,0,none⟩) b.size (grownCap w b.size 0 e))
           (w.drew.alloc (.cells (b.data.map (fun c => Value.int .u8 c.toNat) ++ Array.replicate (grownCap w b.size 0 e - b.size) (.int .u8 0)) e (grownCap w b.size 0 e,grownCap w b.size 0 e + 1))) := by
        have hb : (convert s d (.string b)).run P w = (Conv.stringToBytes e b).run P w := by
         unfold convert
         rw [Sem.run_bind,run_underlying hs]
         simp only [Result.andThen_ok]
         rw [Sem.run_bind,run_underlying hd]
         simp only [Result.andThen_ok]
         cases ds <;> (simp only [Sem.run_bind,run_underlying he,Result.andThen_ok])
        rw [hb]
        have hsz : (b.data.map (fun c => Value.int .u8 c.toNat) ++ Array.replicate (grownCap w b.size 0 e - b.size) (Value.int .u8 0)).size = grownCap w b.size 0 e := by
         have : b.data.size = b.size := rfl
         simp; omega
        unfold Conv.stringToBytes
        rw [Sem.run_bind,run_choose]
        simp only [Question.forced,Bool.false_eq_true,if_false,Result.andThen_ok]
        show ((do
         let a ← newRow e (b.data.map (fun c => Value.int .u8 c.toNat) ++ Array.replicate (grownCap w b.size 0 e - b.size) (Value.int .u8 0))
         markStringish a
         pure (Value.slice (some a) b.size (grownCap w b.size 0 e)) : Sem Value).run P w.drew) = _
        rw [Sem.run_bind,show (newRow e (b.data.map (fun c => Value.int .u8 c.toNat) ++ Array.replicate (grownCap w b.size 0 e - b.size) (Value.int .u8 0))).run P w.drew = .ok ⟨w.heap.size,0,none⟩ (w.drew.alloc (.cells (b.data.map (fun c => Value.int .u8 c.toNat) ++ Array.replicate (grownCap w b.size 0 e - b.size) (Value.int .u8 0)) e)) by simp [newRow]]
        simp only [Result.andThen_ok]
        generalize (b.data.map (fun c => Value.int .u8 c.toNat) ++ Array.replicate (grownCap w b.size 0 e - b.size) (Value.int .u8 0)) = arr at *
        generalize grownCap w b.size 0 e = cap at *
        have hnew : (w.drew.alloc (.cells arr e)).heap[w.heap.size]? = some (.cells arr e (0,0)) := Fl w.drew _
        have hshape : (w.drew.alloc (.cells arr e)).shape? w.heap.size = some (e,arr.size) := by
         simp only [World.shape?,hnew]
        have hmark : (markStringish ⟨w.heap.size,0,none⟩).run P (w.drew.alloc (.cells arr e)) = .ok () ((w.drew.alloc (.cells arr e)).freeze ⟨w.heap.size,arr.size,none⟩ 1) := by
         simp only [markStringish,Sem.run_bind,shape,Sem.run,hshape,Result.andThen_ok,freeze]
        rw [Sem.run_bind,hmark]
        simp only [Result.andThen_ok,Sem.run_pure]
        congr 1
        rw [← hsz]
        exact P3 w.drew arr e
       have hsz : (b.data.map (fun c => Value.int .u8 c.toNat) ++ Array.replicate (grownCap w b.size 0 e - b.size) (Value.int .u8 0)).size = grownCap w b.size 0 e := by
        have : b.data.size = b.size := rfl
        simp; omega
       refine good_new (w1 := w.drew) hM ⟨rfl,rfl,rfl,rfl⟩ hrun (Mi rfl e 1 (cap := grownCap w b.size 0 e) ?_ hmax (by rw [hsz,Nat.mul_one]) ?_ ?_ hM.fresh) (fun φ' hp => .row _ _ _ _ hp hcap hmax)
       · intro j hj; simp only; omega
       · rw [hsz]; have : b.data.size = b.size := rfl; simp; omega
       · intro j y hj
         rw [List.getElem?_map] at hj
         cases hq : b.data.toList[j]? with
         | none => rw [hq] at hj; cases hj
         | some c =>
           rw [hq] at hj; simp at hj; subst hj
           have hjl : j < b.data.size := by simpa using AL hq
           have h2 : b.data[j]? = some c := by simpa using hq
           have : (b.data.map (fun c => Value.int .u8 c.toNat) ++ Array.replicate (grownCap w b.size 0 e - b.size) (Value.int .u8 0)).getD j Go.undef = .int .u8 c.toNat := by
            rw [Array.getD_eq_getD_getElem?,Array.getElem?_append_left (by simpa using hjl)]
            simp [h2]
           rw [this]
           exact .int _ _
     · cases h
   · cases h
 · rename_i e i n hs hd
   split at h
   · rename_i e2 sz cs l he hobj
     simp only [Option.some.injEq] at h; subst h
     have o1 : cs = l.map (D.int .u8) := ho _ (by simp)
     have o2 : l.length = n := ho _ (by simp)
     rcases hM.objs _ _ hobj with ⟨h1,hcs⟩ | ⟨g,cap,arr,fr,h1,h2,h3,h4,h5,h6,h7,h8⟩
     · cases hx with
       | row _ _ g cap hp => rw [h1] at hp; simp at hp
       | rowNil _ a =>
         have : l = [] := List.eq_nil_of_length_eq_zero o2
         subst this
         refine good_v hM ?_ (.d (.str _))
         cases a with
         | none => exact run_convert_bytes_nil w s e hs he 0 0 d hd
         | some ad =>
           rw [run_convert_bytes_string w s d e _ 0 0 hs he hd,run_bytesToString w ad 0 0 [] rfl]
           rfl
     · cases hx with
       | rowNil _ _ hp => rw [h1] at hp; simp at hp
       | row _ _ g' cap' hp hn hm =>
         rw [h1] at hp; simp at hp; obtain ⟨rfl,rfl⟩ := hp
         refine good_v hM (run_convert_bytes_arg w s e hs he g 0 n cap l o2 (fun j hj => ?_) d hd) (.d (.str _))
         have hjl : j < l.length := by omega
         have hc : cs[j]? = some (D.int .u8 l[j]) := by rw [o1]; simp [hjl]
         have hr := h7 j _ hc
         have hja : j < arr.size := by have := AL hc; omega
         have hv : arr.getD j Go.undef = .int .u8 l[j] := by cases hq : arr.getD j Go.undef <;> rw [hq] at hr <;> cases hr <;> rfl
         simp [World.cell?,h2,hja,hjl] at hv ⊢
         exact hv
   · cases h
 · rename_i e t n xs hs hd
   split at h
   · rename_i l he
     simp only [Option.some.injEq] at h; subst h
     have o1 : xs = l.map (D.int .u8) := ho _ (by simp)
     have o2 : l.length = n := ho _ (by simp)
     cases hx with
     | d hdd =>
     cases hdd with
     | list0 a cap _ ht hm =>
       have : l = [] := List.eq_nil_of_length_eq_zero o2
       subst this
       refine good_v hM ?_ (.d (.str _))
       cases a with
       | none => exact run_convert_bytes_nil w s e hs he 0 cap d hd
       | some ad =>
         rw [run_convert_bytes_string w s d e _ 0 cap hs he hd,run_bytesToString w ad 0 cap [] rfl]
         rfl
     | list g off _ cap _ _ arr e2 fr f hg hn hm ht hx2 hr2 =>
       refine good_v hM (run_convert_bytes_arg w s e hs he g off n cap l o2 (fun j hj => ?_) d hd) (.d (.str _))
       have hjl : j < l.length := by omega
       have hc : xs[j]? = some (D.int .u8 l[j]) := by rw [o1]; simp [hjl]
       have hr := hr2 j _ hc
       have hv : f j = .int .u8 l[j] := by cases hq : f j <;> rw [hq] at hr <;> cases hr <;> rfl
       have hcell := hx2 j _ hc
       simp only [World.cell?,hM.knows _ _ hg]
       simpa [hv,hjl] using hcell
   · cases h
 · rename_i b hs hd
   simp only [Option.some.injEq] at h; subst h
   have := hx.inv_str; subst this
   refine good_v hM ?_ (.d (.str b))
   unfold convert
   rw [Sem.run_bind,run_underlying hs]
   simp only [Result.andThen_ok]
   rw [Sem.run_bind,run_underlying hd]
   rfl
 · cases h
end
end Go.Ab
