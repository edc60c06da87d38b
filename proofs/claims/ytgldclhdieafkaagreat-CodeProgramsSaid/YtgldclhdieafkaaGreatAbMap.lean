/- Maps of numbers whose keys are not known: what they hold, and how they are asked and written. -/
import Derived.Test.YtgldclhdieafkaaGreatAbStep8
namespace Go.Ab
open Go.RowKit
def dget (kk : IntKind) (n : Int) (z : List D) : List (D × List D) → Option (List D × Bool)
 | [] => some (z,false)
 | (.int k m,cs) :: l => if k = kk then (if n == m then some (cs,true) else dget kk n z l) else none
 | _ :: _ => none
def dput (kk : IntKind) (n : Int) (cs : List D) : List (D × List D) → Option (List (D × List D))
 | [] => some [(.int kk n,cs)]
 | (.int k m,xs) :: l => if k = kk then (if n == m then some ((.int k m,cs) :: l) else match dput kk n cs l with | some r => some ((.int k m,xs) :: r) | none => none) else none
 | _ :: _ => none
def valE : Bool → PV → Option (List D)
 | true,.agg cs => toDs cs
 | true,.dagg ds => some ds
 | false,.d x => some [x]
 | _,_ => none
def ofE : Bool → List D → Option PV
 | true,cs => some (.agg (cs.map .d))
 | false,[x] => some (.d x)
 | _,_ => none
def Sl (P : Program) (vt : TypeId) (ag : Bool) : Option (List D) :=
 match P.info? vt with
 | some info =>
   match info.zero,ag with
   | some (.agg cs),true => (match H3 cs.toList with | some l => toDs l | none => none)
   | some v,false => (match Kb v with | some (.d x) => some [x] | _ => none)
   | _,_ => none
 | none => none
def aPut (P : Program) (T : TypeId) (m k v : PV) (es' : List (D × List D)) (σ : List AObj) : Option Out :=
 match P.underlying T,m,k with
 | some (.map kt _),.mapv i,.d (.int kk n) =>
   match P.underlying kt,σ[i]? with
   | some desc,some (.dmp ag es) => (match Jr desc,valE ag v with | true,some ds => some ⟨.undef,σ.set i (.dmp ag es'),none,[dput kk n ds es = some es']⟩ | _,_ => none)
   | _,_ => none
 | _,_,_ => none
def L2 (P : Program) (T : TypeId) (m k v : PV) (σ : List AObj) (orc : Orc) : Option Out :=
 match orc with
 | .ents es' => aPut P T m k v es' σ
 | _ => OY P T m k v σ
def aGet (P : Program) (T : TypeId) (m k : PV) (ok : Bool) (b : Bool) (cs : List D) (σ : List AObj) : Option Out :=
 match P.underlying T,m,k with
 | some (.map kt vt),.mapv i,.d (.int kk n) =>
   match P.underlying kt,σ[i]? with
   | some desc,some (.dmp ag es) => (match Jr desc,Sl P vt ag,ofE ag cs with | true,some z,some r => some ⟨if ok then .tup [r,.d (.bool b)] else r,σ,none,[dget kk n z es = some (cs,b)]⟩ | _,_,_ => none)
   | _,_ => none
 | _,_,_ => none
def QQ (kk : IntKind) : List D → Bool
 | [] => true
 | .int k _ :: l => decide (k = kk) && QQ kk l
 | _ :: _ => false
def aSel (P : Program) (T : TypeId) (m k : PV) (ok : Bool) (q : Option Nat) (σ : List AObj) : Option Out :=
 match P.underlying T,m,k with
 | some (.map kt vt),.mapv i,.d (.int kk n) =>
   match P.underlying kt,σ[i]?,q with
   | some desc,some (.mp ks vs),some q =>
     (match Jr desc,ks[q]?,vs[q]? with
     | true,some (.int k' c),some v => if decide (k' = kk) && Mh kk c (ks.take q) then some ⟨if ok then .tup [v,.d (.bool true)] else v,σ,none,[n = c]⟩ else none
     | _,_,_ => none)
   | some desc,some (.mp ks vs),none =>
     (match Jr desc && QQ kk ks,P.info? vt with
     | true,some info => (match info.zero with | some z => (match Kb z with | some r => some ⟨if ok then .tup [r,.d (.bool false)] else r,σ,none,[lkB n ks = false]⟩ | none => none) | none => none)
     | _,_ => none)
   | _,_,_ => none
 | _,_,_ => none
def Nw (P : Program) (T : TypeId) (m k : PV) (ok : Bool) (σ : List AObj) (orc : Orc) : Option Out :=
 match orc with
 | .cells (.bool b :: cs) => aGet P T m k ok b cs σ
 | .val (.int _ q) => aSel P T m k ok (some q.toNat) σ
 | .val .nilF => aSel P T m k ok none σ
 | _ => OW P T m k ok σ
section
variable {P : Program} {E : Entry} {w : World} {hz : Hp} {φ : Phi} {σ : List AObj}
theorem LZ {ag : Bool} {v : Value} {x : PV} {ds : List D} (h : RelV hz φ v x) (hv : valE ag x = some ds) : RelE hz ag v ds := by
 unfold RelE
 unfold valE at hv
 split at hv
 · cases h with
   | agg arr cs hs hr =>
   rw [if_pos rfl]
   exact ⟨arr,rfl,by rw [hs,(toDs_get hv).1],relCells_ds (φ := φ) hr hv⟩
 · cases hv
   cases h with
   | dagg arr cs hs hr =>
   rw [if_pos rfl]
   exact ⟨arr,rfl,hs,hr⟩
 · cases hv
   rw [if_neg (by simp)]
   exact ⟨_,rfl,relV_d h⟩
 · cases hv
theorem ofE_rel {ag : Bool} {v : Value} {x : PV} {cs : List D} (h : RelE hz ag v cs) (hx : ofE ag cs = some x) : RelV hz φ v x := by
 unfold RelE at h
 unfold ofE at hx
 split at hx
 · rw [if_pos rfl] at h
   obtain ⟨arr,rfl,hs,hr⟩ := h
   cases hx
   refine .agg arr _ (by simpa using hs) fun j y hj => ?_
   rw [List.getElem?_map] at hj
   obtain ⟨z,hz',rfl⟩ := Option.map_eq_some_iff.1 hj
   exact .d (hr j z hz')
 · rw [if_neg (by simp)] at h
   obtain ⟨y,e,hr⟩ := h
   cases e; cases hx
   exact .d hr
 · cases hx
theorem zeroE_rel {vt : TypeId} {ag : Bool} {z : List D} (h : Sl P vt ag = some z) : ∃ v,(zeroValue vt).run P w = .ok v w ∧ RelE hz ag v z := by
 unfold Sl at h
 split at h
 · rename_i info hi
   split at h
   · rename_i cs hz0
     split at h
     · rename_i l hl
       refine ⟨.agg cs,by simp [zeroValue,typeInfo,hi,hz0],?_⟩
       obtain ⟨h1,h2⟩ := Gc (hz := hz) (φ := fun _ => none) hl
       exact LZ (φ := fun _ => none) (x := .agg l) (.agg cs l h1 h2) h
     · cases h
   · rename_i v hz0
     split at h
     · rename_i x hx
       cases h
       exact ⟨v,by simp [zeroValue,typeInfo,hi,hz0],LZ (ag := false) (φ := fun _ => none) (Ig hx) rfl⟩
     · cases h
   · cases h
 · cases h
abbrev EntOK (hz : Hp) (ag : Bool) (es : List MapEntry) (l : List (D × List D)) : Prop := ∀ (j : Nat) (p : D × List D),l[j]? = some p → ∃ e : MapEntry,es[j]? = some e ∧ RelD hz e.key p.1 ∧ RelE hz ag e.val p.2
theorem EntOK.tail {ag : Bool} {e : MapEntry} {es : List MapEntry} {p : D × List D} {l : List (D × List D)} (h : EntOK hz ag (e :: es) (p :: l)) : EntOK hz ag es l := fun j q hj => by simpa using h (j + 1) q (by simpa using hj)
theorem Oc {desc : TypeDesc} (hd : Jr desc = true) {kk : IntKind} {n : Int} {z cs : List D} {b ag : Bool} : ∀ (es : List MapEntry) (l : List (D × List D)) (i : Nat),es.length = l.length → EntOK hz ag es l → dget kk n z l = some (cs,b) →
    ∃ q,Instr.findNow desc (.int kk n) es i = some q ∧ match q with | some p => b = true ∧ RelE hz ag p.2 cs | none => b = false ∧ cs = z
 | [],[],i,_,_,h => by simp [dget] at h; exact ⟨none,rfl,by simp [← h.2],h.1.symm⟩
 | [],_ :: _,i,hl,_,_ => by simp at hl
 | e :: es,[],i,hl,_,_ => by simp at hl
 | e :: es,(key,xs) :: l,i,hl,hk,h => by
   obtain ⟨e',h1,h2,h3⟩ := hk 0 _ rfl
   simp at h1; subst h1
   cases key with
   | int k m =>
     simp only [dget] at h
     split at h
     · rename_i hkk
       subst hkk
       cases hke : e.key with
       | int a c =>
         rw [hke] at h2; cases h2
         cases desc <;> first | (cases hd) | skip
         cases hb : (n == m) with
         | true =>
           rw [hb,if_pos rfl] at h; cases h
           exact ⟨some (i,e.val),by simp only [Instr.findNow,Instr.sameNow,hke,if_true,hb],rfl,h3⟩
         | false =>
           rw [hb,if_neg (by simp)] at h
           obtain ⟨q,g1,g2⟩ := Oc (desc := .int _) rfl es l (i + 1) (by simpa using hl) hk.tail h
           exact ⟨q,by simp only [Instr.findNow,Instr.sameNow,hke,if_true,hb]; exact g1,g2⟩
       | _ => rw [hke] at h2; cases h2
     · cases h
   | _ => simp [dget] at h
theorem dput_find {desc : TypeDesc} (hd : Jr desc = true) {kk : IntKind} {n : Int} {cs : List D} {ag : Bool} : ∀ (es : List MapEntry) (l l' : List (D × List D)) (i : Nat),es.length = l.length → EntOK hz ag es l → dput kk n cs l = some l' →
    (Instr.findNow desc (.int kk n) es i = some none ∧ l' = l ++ [(.int kk n,cs)]) ∨ ∃ (j : Nat) (e : MapEntry),Instr.findNow desc (.int kk n) es i = some (some (i + j,e.val)) ∧ es[j]? = some e ∧ e.key = .int kk n ∧ l' = l.set j (.int kk n,cs)
 | [],[],l',i,_,_,h => by simp [dput] at h; exact .inl ⟨rfl,by simp [h]⟩
 | [],_ :: _,l',i,hl,_,_ => by simp at hl
 | e :: es,[],l',i,hl,_,_ => by simp at hl
 | e :: es,(key,xs) :: l,l',i,hl,hk,h => by
   obtain ⟨e',h1,h2,h3⟩ := hk 0 _ rfl
   simp at h1; subst h1
   cases key with
   | int k m =>
     simp only [dput] at h
     split at h
     · rename_i hkk
       subst hkk
       cases hke : e.key with
       | int a c =>
         rw [hke] at h2; cases h2
         cases desc <;> first | (cases hd) | skip
         cases hb : (n == m) with
         | true =>
           have hnm := eq_of_beq hb
           subst hnm
           rw [hb,if_pos rfl] at h; cases h
           exact .inr ⟨0,e,by simp only [Instr.findNow,Instr.sameNow,hke,if_true,hb]; rfl,rfl,hke,rfl⟩
         | false =>
           rw [hb,if_neg (by simp)] at h
           split at h
           · rename_i r hr
             cases h
             have hf : Instr.findNow (.int ‹_›) (.int k n) (e :: es) i = Instr.findNow (.int ‹_›) (.int k n) es (i + 1) := by simp only [Instr.findNow,Instr.sameNow,hke,if_true,hb]
             rcases dput_find (desc := .int _) rfl es l r (i + 1) (by simpa using hl) hk.tail hr with ⟨g1,g2⟩ | ⟨j,e2,g1,g2,g3,g4⟩
             · exact .inl ⟨hf.trans g1,by rw [g2]; rfl⟩
             · exact .inr ⟨j + 1,e2,(hf.trans g1).trans (by rw [show i + 1 + j = i + (j + 1) by omega]),by simpa using g2,g3,by rw [g4]; rfl⟩
           · cases h
       | _ => rw [hke] at h2; cases h2
     · cases h
   | _ => simp [dput] at h
theorem Nk {kt : TypeId} {desc : TypeDesc} (hu : P.underlying kt = some desc) {kk : IntKind} {n : Int} {es : List MapEntry} {q : Option (Nat × Value)} (h : Instr.findNow desc (.int kk n) es 0 = some q) : (Instr.findKey kt (.int kk n) es).run P w = .ok q w := by
 unfold Instr.findKey
 rw [Sem.run_bind,run_underlying hu]
 simp only [Result.andThen_ok]
 rw [h]; rfl
theorem Rf {T : TypeId} {m k v : PV} {vm vk vv : Value} {es' : List (D × List D)} {out : Out} (hM : Mem E hz φ σ w) (hm : RelV hz φ vm m) (hk : RelV hz φ vk k) (hv : RelV hz φ vv v) (h : aPut P T m k v es' σ = some out) (ho : ∀ p ∈ out.obl,p) :
    Good P E (do Instr.mapUpdate T vm vk vv; pure .skip) w hz φ out := by
 unfold aPut at h
 split at h
 · rename_i kt vt i kk n hu
   split at h
   · rename_i desc ag es0 hd hi
     split at h
     · rename_i ds hc hds
       simp only [Option.some.injEq] at h; subst h
       have hput : dput kk n ds es0 = some es' := ho _ (List.mem_singleton.2 rfl)
       have hve := LZ hv hds
       have := hk.inv_int; subst this
       obtain ⟨g,c,es,clock,q1,q2,q3,q4,q7⟩ := hM.objs i _ hi
       cases hm with
       | mapv _ g' c' hp =>
       rw [q1] at hp; cases hp
       have hg : g < w.heap.size := lt_of_get q2
       have fin : ∀ (es2 : Array MapEntry) (cl2 : Nat),(do Instr.mapUpdate T (.map (some g)) (.int kk n) vv; pure Next.skip : Sem Next).run P w = .ok .skip (putO w g (.map es2 cl2)) → es2.size = es'.length → EntOK hz ag es2.toList es' → Good P E (do Instr.mapUpdate T (.map (some g)) (.int kk n) vv; pure .skip) w hz φ ⟨.undef,σ.set i (.dmp ag es'),none,[dput kk n ds es0 = some es']⟩ := by
        intro es2 cl2 hrun hsz hent
        refine ⟨.skip,undef,putO w g (.map es2 cl2),hz,φ,hrun,.inr ⟨rfl,rfl⟩,?_,.undef _,fun _ _ h => h⟩
        refine hM.write hi rfl rfl q1 (fun k hk => ?_) ?_ rfl rfl rfl ⟨g,c,es2,cl2,q1,?_,hsz,?_,q7⟩
        · simp [putO,Array.getElem?_setIfInBounds]
          intro e; exact absurd e.symm hk
        · simp [putO]
        · simp [putO,hg]
        · intro j p hj
          obtain ⟨e,h1,h2⟩ := hent j p hj
          exact ⟨e,by simpa using h1,h2⟩
       have hent0 : EntOK hz ag es.toList es0 := fun j p hj => by obtain ⟨e,h1,h2⟩ := q4 j p hj; exact ⟨e,by simpa using h1,h2⟩
       rcases dput_find hc es.toList es0 es' 0 (by simpa using q3) hent0 hput with ⟨g1,g2⟩ | ⟨j,e,g1,g2,g3,g4⟩
       · refine fin (es.push { key := .int kk n,val := vv,born := clock }) (clock + 1) ?_ (by rw [g2]; simp [q3]) ?_
         · rw [Sem.run_bind]
           unfold Instr.mapUpdate
           rw [Sem.run_bind,run_underlying hu]
           simp only [Result.andThen_ok]
           rw [Sem.run_bind,Ms q2]
           simp only [Result.andThen_ok]
           rw [Sem.run_bind,Iy hc hd]
           simp only [Result.andThen_ok]
           rw [Sem.run_bind,Nk hd g1]
           simp only [Result.andThen_ok]
           rw [OC _ q2]
           rfl
         · intro j p hj
           rw [g2] at hj
           rw [Array.toList_push]
           rcases Nat.lt_or_ge j es0.length with hl | hl
           · rw [List.getElem?_append_left hl] at hj
             obtain ⟨e,h1,h2⟩ := hent0 j p hj
             exact ⟨e,by rw [List.getElem?_append_left (by simpa [q3] using hl)]; exact h1,h2⟩
           · have hj0 : j = es0.length := by
               have := AL hj
               simp at this; omega
             subst hj0
             simp at hj; subst hj
             exact ⟨{ key := .int kk n,val := vv,born := clock },by rw [List.getElem?_append_right (by simp [q3])]; simp [q3],.int _ _,hve⟩
       · rw [Nat.zero_add] at g1
         have ge : es[j]? = some e := by simpa using g2
         have hjl := AL g2
         refine fin (es.modify j fun e => { e with key := .int kk n,val := vv }) clock ?_ (by rw [g4]; simp [q3]) ?_
         · rw [Sem.run_bind]
           unfold Instr.mapUpdate
           rw [Sem.run_bind,run_underlying hu]
           simp only [Result.andThen_ok]
           rw [Sem.run_bind,Ms q2]
           simp only [Result.andThen_ok]
           rw [Sem.run_bind,Iy hc hd]
           simp only [Result.andThen_ok]
           rw [Sem.run_bind,Nk hd g1]
           simp only [Result.andThen_ok]
           have hks : (Instr.keyThatStays (((es[j]?).map (·.key)).getD (.int kk n)) (.int kk n)).run P w = .ok (.int kk n) w := by
            rw [ge]
            simp only [Option.map_some,Option.getD_some,g3]
            unfold Instr.keyThatStays
            have : Instr.sameBits 10000 (.int kk n) (.int kk n) = true := by simp [Instr.sameBits]
            rw [if_pos this]; rfl
           rw [Sem.run_bind,hks]
           simp only [Result.andThen_ok]
           rw [OC _ q2]
           rfl
         · intro j' p hj
           rw [g4] at hj
           rw [List.getElem?_set] at hj
           rw [Array.toList_modify,List.getElem?_modify]
           by_cases hjj : j = j'
           · subst hjj
             rw [if_pos rfl] at hj
             split at hj
             · cases hj
               refine ⟨{ e with key := .int kk n,val := vv },by rw [g2]; simp,.int _ _,hve⟩
             · cases hj
           · rw [if_neg hjj] at hj
             obtain ⟨e2,h1,h2⟩ := hent0 j' p hj
             exact ⟨e2,by rw [h1]; simp [hjj],h2⟩
     · cases h
   · cases h
 · cases h
theorem Lm {T : TypeId} {m k v : PV} {vm vk vv : Value} {orc : Orc} {out : Out} (hM : Mem E hz φ σ w) (hm : RelV hz φ vm m) (hk : RelV hz φ vk k) (hv : RelV hz φ vv v) (h : L2 P T m k v σ orc = some out) (ho : ∀ p ∈ out.obl,p) :
    Good P E (do Instr.mapUpdate T vm vk vv; pure .skip) w hz φ out := by
 unfold L2 at h
 split at h
 · exact Rf hM hm hk hv h ho
 · exact Om hM hm hk hv h
theorem L0 {T kt vt : TypeId} {desc : TypeDesc} (hu : P.underlying T = some (.map kt vt)) (hd : P.underlying kt = some desc) (hc : Jr desc = true) {g : Nat} {es : Array MapEntry} {clock : Nat} (q2 : w.heap[g]? = some (.map es clock)) {kk : IntKind} {n : Int} {q : Option (Nat × Value)}
    (hf : Instr.findNow desc (.int kk n) es.toList 0 = some q) {v : Value} {b : Bool} (hv : match q with | some p => v = p.2 ∧ b = true | none => (zeroValue vt).run P w = .ok v w ∧ b = false) (ok : Bool) :
    (Instr.lookup T (.map (some g)) (.int kk n) ok).run P w = .ok (if ok then .tuple #[v,.bool b] else v) w := by
 unfold Instr.lookup
 rw [Sem.run_bind,run_underlying hu]
 simp only [Result.andThen_ok]
 rw [Sem.run_bind,Ms q2]
 simp only [Result.andThen_ok,Sem.run_bind,Sem.run_pure,Iy hc hd,Nk hd hf]
 cases q with
 | some p =>
   obtain ⟨a,c⟩ := p
   obtain ⟨rfl,rfl⟩ := hv
   cases ok <;> rfl
 | none =>
   obtain ⟨h1,rfl⟩ := hv
   simp only [Sem.run_bind,h1,Result.andThen_ok,Sem.run_pure]
theorem tup2 {v : Value} {x : PV} {b ok : Bool} (h : RelV hz φ v x) : RelV hz φ (if ok then .tuple #[v,.bool b] else v) (if ok then .tup [x,.d (.bool b)] else x) := by
 cases ok
 · exact h
 · refine .tup #[v,.bool b] _ rfl (fun j y hj => ?_)
   match j,hj with
   | 0,hj => simp at hj; subst hj; exact h
   | 1,hj => simp at hj; subst hj; exact .d (.bool _)
   | j + 2,hj => simp at hj
theorem Rh {T : TypeId} {m k : PV} {vm vk : Value} {ok b : Bool} {cs : List D} {out : Out} (hM : Mem E hz φ σ w) (hm : RelV hz φ vm m) (hk : RelV hz φ vk k) (h : aGet P T m k ok b cs σ = some out) (ho : ∀ p ∈ out.obl,p) :
    Good P E (do pure (.value (← Instr.lookup T vm vk ok))) w hz φ out := by
 unfold aGet at h
 split at h
 · rename_i kt vt i kk n hu
   split at h
   · rename_i desc ag es0 hd hi
     split at h
     · rename_i z r hc hz0 hr
       simp only [Option.some.injEq] at h; subst h
       have hget : dget kk n z es0 = some (cs,b) := ho _ (List.mem_singleton.2 rfl)
       have := hk.inv_int; subst this
       obtain ⟨g,c,es,clock,q1,q2,q3,q4,q7⟩ := hM.objs i _ hi
       cases hm with
       | mapv _ g' c' hp =>
       rw [q1] at hp; cases hp
       obtain ⟨q,g1,g2⟩ := Oc hc es.toList es0 0 (by simpa using q3) (fun j p hj => by obtain ⟨e,h1,h2⟩ := q4 j p hj; exact ⟨e,by simpa using h1,h2⟩) hget
       cases q with
       | some p => exact good_v hM (L0 hu hd hc q2 g1 (v := p.2) ⟨rfl,g2.1⟩ ok) (tup2 (ofE_rel g2.2 hr))
       | none =>
         obtain ⟨rfl,rfl⟩ := g2
         obtain ⟨v,k1,k2⟩ := zeroE_rel (P := P) (w := w) (hz := hz) hz0
         exact good_v hM (L0 hu hd hc q2 g1 (v := v) ⟨k1,rfl⟩ ok) (tup2 (ofE_rel k2 hr))
     · cases h
   · cases h
 · cases h
theorem sel_find {desc : TypeDesc} (hd : Jr desc = true) {kk : IntKind} {c : Int} {v : PV} : ∀ (es : List MapEntry) (ks : List D) (vs : List PV) (q i : Nat),(∀ (j : Nat) (k : D),ks[j]? = some k → ∃ e : MapEntry,es[j]? = some e ∧ RelD hz e.key k) → (∀ (j : Nat) (x : PV),vs[j]? = some x → ∃ e : MapEntry,es[j]? = some e ∧ RelV hz φ e.val x) →
    ks[q]? = some (.int kk c) → vs[q]? = some v → Mh kk c (ks.take q) = true → ∃ p,Instr.findNow desc (.int kk c) es i = some (some p) ∧ RelV hz φ p.2 v
 | es,ks,vs,0,i,hk,hv,h1,h2,_ => by
   obtain ⟨e,a1,a2⟩ := hk 0 _ h1
   obtain ⟨e',b1,b2⟩ := hv 0 _ h2
   rw [a1] at b1; cases b1
   cases es with
   | nil => simp at a1
   | cons x es =>
     simp at a1; subst a1
     cases hke : x.key with
     | int a b =>
       rw [hke] at a2; cases a2
       cases desc <;> first | (cases hd) | skip
       exact ⟨(i,x.val),by simp only [Instr.findNow,Instr.sameNow,hke,if_true,beq_self_eq_true],b2⟩
     | _ => rw [hke] at a2; cases a2
 | es,[],vs,q + 1,i,hk,hv,h1,h2,hn => by simp at h1
 | es,k :: ks,[],q + 1,i,hk,hv,h1,h2,hn => by simp at h2
 | es,k :: ks,y :: vs,q + 1,i,hk,hv,h1,h2,hn => by
   obtain ⟨e,a1,a2⟩ := hk 0 _ rfl
   cases es with
   | nil => simp at a1
   | cons x es =>
     simp at a1; subst a1
     simp only [List.take_succ_cons] at hn
     cases k with
     | int k' m =>
       simp only [Mh,Bool.and_eq_true,decide_eq_true_eq,Bool.not_eq_true'] at hn
       obtain ⟨⟨hkk,hne⟩,hn⟩ := hn
       subst hkk
       cases hke : x.key with
       | int a b =>
         rw [hke] at a2; cases a2
         cases desc <;> first | (cases hd) | skip
         obtain ⟨p,g1,g2⟩ := sel_find (desc := .int _) rfl es ks vs q (i + 1) (fun j k hj => by simpa using hk (j + 1) k (by simpa using hj)) (fun j k hj => by simpa using hv (j + 1) k (by simpa using hj)) (by simpa using h1) (by simpa using h2) hn
         exact ⟨p,by simp only [Instr.findNow,Instr.sameNow,hke,if_true,hne]; exact g1,g2⟩
       | _ => rw [hke] at a2; cases a2
     | _ => simp [Mh] at hn
theorem Pn {kk : IntKind} {n : Int} : ∀ {ks : List D},QQ kk ks = true → lkB n ks = false → Mh kk n ks = true
 | [],_,_ => rfl
 | k :: ks,h,hb => by
   cases k with
   | int k' m =>
     simp only [QQ,Bool.and_eq_true,decide_eq_true_eq] at h
     simp only [lkB,Bool.or_eq_false_iff] at hb
     simp only [Mh,Bool.and_eq_true,decide_eq_true_eq,Bool.not_eq_true']
     exact ⟨⟨h.1.symm,hb.1⟩,Pn h.2 hb.2⟩
   | _ => simp [QQ] at h
theorem Oj {T : TypeId} {m k : PV} {vm vk : Value} {ok : Bool} {q : Option Nat} {out : Out} (hM : Mem E hz φ σ w) (hm : RelV hz φ vm m) (hk : RelV hz φ vk k) (h : aSel P T m k ok q σ = some out) (ho : ∀ p ∈ out.obl,p) :
    Good P E (do pure (.value (← Instr.lookup T vm vk ok))) w hz φ out := by
 unfold aSel at h
 split at h
 · rename_i kt vt i kk n hu
   have := hk.inv_int; subst this
   split at h
   · rename_i desc ks vs q hd hi
     obtain ⟨g,c,es,clock,q1,q2,q3,q4,q5,q6,q7⟩ := hM.objs i _ hi
     cases hm with
     | mapv _ g' c' hp =>
     rw [q1] at hp; cases hp
     split at h
     · rename_i k' c0 v hc hks hvs
       split at h
       · rename_i hcc
         simp only [Bool.and_eq_true,decide_eq_true_eq] at hcc
         obtain ⟨rfl,hnk⟩ := hcc
         simp only [Option.some.injEq] at h; subst h
         have hn : n = c0 := ho _ (List.mem_singleton.2 rfl)
         subst hn
         obtain ⟨p,g1,g2⟩ := sel_find (hz := hz) (φ := φ) hc es.toList ks vs q 0 (fun j k hj => by simpa using q5 j k hj) (fun j k hj => by simpa using q6 j k hj) hks hvs hnk
         exact good_v hM (L0 hu hd hc q2 g1 (v := p.2) (b := true) ⟨rfl,rfl⟩ ok) (tup2 g2)
       · cases h
     · cases h
   · rename_i desc ks vs hd hi
     obtain ⟨g,c,es,clock,q1,q2,q3,q4,q5,q6,q7⟩ := hM.objs i _ hi
     cases hm with
     | mapv _ g' c' hp =>
     rw [q1] at hp; cases hp
     split at h
     · rename_i info hc hinf
       simp only [Bool.and_eq_true] at hc
       split at h
       · rename_i z hz0
         split at h
         · rename_i r hr
           simp only [Option.some.injEq] at h; subst h
           have hb : lkB n ks = false := ho _ (List.mem_singleton.2 rfl)
           have g1 := J7 (hz := hz) hc.1 es.toList ks 0 (by simpa using q3) (fun j k hj => by simpa using q5 j k hj) (Pn hc.2 hb)
           exact good_v hM (L0 hu hd hc.1 q2 g1 (v := z) (b := false) ⟨by simp [zeroValue,typeInfo,hinf,hz0],rfl⟩ ok) (tup2 (Ig hr))
         · cases h
       · cases h
     · cases h
   · cases h
 · cases h
theorem Nv {T : TypeId} {m k : PV} {vm vk : Value} {ok : Bool} {orc : Orc} {out : Out} (hM : Mem E hz φ σ w) (hm : RelV hz φ vm m) (hk : RelV hz φ vk k) (h : Nw P T m k ok σ orc = some out) (ho : ∀ p ∈ out.obl,p) :
    Good P E (do pure (.value (← Instr.lookup T vm vk ok))) w hz φ out := by
 unfold Nw at h
 split at h
 · exact Rh hM hm hk h ho
 · exact Oj hM hm hk h ho
 · exact Oj hM hm hk h ho
 · exact Ol hM hm hk h
def mpD (ag : Bool) : List D → List PV → Option (List (D × List D))
 | [],[] => some []
 | k :: ks,v :: vs => (match valE ag v,mpD ag ks vs with | some ds,some r => some ((k,ds) :: r) | _,_ => none)
 | _,_ => none
theorem QF {ag : Bool} : ∀ {ks : List D} {vs : List PV} {l : List (D × List D)},mpD ag ks vs = some l → l.length = ks.length ∧ ∀ (j : Nat) (p : D × List D),l[j]? = some p → ks[j]? = some p.1 ∧ ∃ v,vs[j]? = some v ∧ valE ag v = some p.2
 | [],[],l,h => by simp [mpD] at h; subst h; simp
 | [],_ :: _,l,h => by simp [mpD] at h
 | _ :: _,[],l,h => by simp [mpD] at h
 | k :: ks,v :: vs,l,h => by
   simp only [mpD] at h
   split at h
   · rename_i ds r h1 h2
     cases h
     obtain ⟨a,b⟩ := QF h2
     refine ⟨by simp [a],fun j p hj => ?_⟩
     cases j with
     | zero => simp at hj; subst hj; exact ⟨rfl,v,rfl,h1⟩
     | succ j => simpa using b j p (by simpa using hj)
   · cases h
theorem mpD_rel {i : Nat} {ag : Bool} {ks : List D} {vs : List PV} {l : List (D × List D)} (h : ObjRel hz φ w i (.mp ks vs)) (hl : mpD ag ks vs = some l) : ObjRel hz φ w i (.dmp ag l) := by
 obtain ⟨g,c,es,clock,q1,q2,q3,q4,q5,q6,q7⟩ := h
 obtain ⟨h1,h2⟩ := QF hl
 refine ⟨g,c,es,clock,q1,q2,by rw [q3,h1],fun j p hj => ?_,q7⟩
 obtain ⟨a1,v,a2,a3⟩ := h2 j p hj
 obtain ⟨e,b1,b2⟩ := q5 j _ a1
 obtain ⟨e',c1,c2⟩ := q6 j _ a2
 rw [b1] at c1; cases c1
 exact ⟨e,b1,b2,LZ c2 a3⟩
end
end Go.Ab
