/- A region that draws its order. -/
import Derived.Test.YtgldclhdieafkaaGreatAbDraw3
namespace Go.Ab
open Go.RowKit
section
variable {P : Program} {ro : Option Nat} {E : Entry} {n : Nat} {ops : Array Oper} {mk : List Nat} {tips : List (Nat × TipD)} {st0 : St}
def OKat (P : Program) (n : Nat) (ops : Array Oper) (mk : List Nat) (st0 : St) (ms : List Nat) (rs : List Rec) (i : Nat) : Prop :=
 ∃ o r m td env σ p,ops[i]? = some o ∧ rs[i]? = some r ∧ ms[i]? = some m ∧ OA P n ops mk td o env σ = some (r,p) ∧ (∀ q ∈ p,q) ∧ Pre r (replayF m.testBit 0 (rs.take i) st0.F) ∧
   m = maskOf (ms.take i) o.after.toList 0 ∧ LB i o.after.toList = true ∧ ∀ (j : Nat) (rj : Rec),j < i → rs[j]? = some rj → m.testBit j = false → P9 rj r = true ∧ LW rj r = true ∧ LW r rj = true
theorem Qo {tip : Tip} {o : Oper} {env : Env} {σ : List AObj} {r : Rec} {p : List Prop} (h : OA P n ops mk tip o env σ = some (r,p)) : r.env = env ∧ (r.loc = σ ∨ r.loc = []) := by
 unfold OA at h
 split at h
 case isFalse => cases h
 split at h
 · simp only [Option.some.injEq,Prod.mk.injEq] at h; obtain ⟨rfl,rfl⟩ := h; exact ⟨rfl,.inr rfl⟩
 · split at h
   · split at h
     · split at h
       · simp only [Option.some.injEq,Prod.mk.injEq] at h; obtain ⟨rfl,rfl⟩ := h; exact ⟨rfl,.inl rfl⟩
       · cases h
     · cases h
   split at h
   · split at h
     · split at h
       · split at h
         · simp only [Option.some.injEq,Prod.mk.injEq] at h; obtain ⟨rfl,rfl⟩ := h; exact ⟨rfl,.inr rfl⟩
         · cases h
       · cases h
     · cases h
   · split at h
     · split at h
       · split at h
         · simp only [Option.some.injEq,Prod.mk.injEq] at h; obtain ⟨rfl,rfl⟩ := h; exact ⟨rfl,.inl rfl⟩
         · cases h
       · split at h
         · split at h
           · simp only [Option.some.injEq,Prod.mk.injEq] at h; obtain ⟨rfl,rfl⟩ := h; exact ⟨rfl,.inl rfl⟩
           · cases h
         · cases h
     · cases h
 · cases h
theorem stepAt_pre {td : TipD} {o : Oper} {st : St} {r : Rec} {p : List Prop} (h : stepAt P n ops mk td o st = some (r,p)) :
    ∃ env σ,OA P n ops mk td.tip o env σ = some (r,p) ∧ Pre r st.F := by
 unfold stepAt at h
 split at h
 · rename_i r' p' hstep
   split at h
   · rename_i hb
     simp only [Option.some.injEq,Prod.mk.injEq] at h; obtain ⟨rfl,rfl⟩ := h
     refine ⟨_,_,hstep,?_⟩
     obtain ⟨e1,e2⟩ := Qo hstep
     simp only [preB,Bool.and_eq_true] at hb
     refine ⟨fun t x hx => ?_,fun i o hi hl => ?_,fun t x hx => ?_,fun i o hi => ?_,Nat.le_of_ble_eq_true hb.2⟩
     · rw [e1] at hx
       exact H2 _ _ hx
     · rcases e2 with e2 | e2
       · rw [e2] at hi
         have := Mk _ _ i o hi hl
         rw [List.getElem?_take] at this
         split at this
         · exact this
         · cases this
       · rw [e2] at hi; simp at hi
     · exact envFree_get hb.1.1 t x hx
     · exact objFree_get hb.1.2 i o hi
   · cases h
 · cases h
theorem OKat.grow {ms : List Nat} {rs : List Rec} {i : Nat} {ms2 : List Nat} {rs2 : List Rec} (h : OKat P n ops mk st0 ms rs i) : OKat P n ops mk st0 (ms ++ ms2) (rs ++ rs2) i := by
 obtain ⟨o,r,m,td,env,σ,p,h1,h2,h3,h4,h5,h6,h7,h8,h9⟩ := h
 have l2 := AL h2
 have l3 := AL h3
 refine ⟨o,r,m,td,env,σ,p,h1,by rw [List.getElem?_append_left l2]; exact h2,by rw [List.getElem?_append_left l3]; exact h3,h4,h5,by rw [List.take_append_of_le_length (by omega)]; exact h6,by rw [List.take_append_of_le_length (by omega)]; exact h7,h8,?_⟩
 intro j rj hj hr hm
 rw [List.getElem?_append_left (by omega)] at hr
 exact h9 j rj hj hr hm
theorem runD_ok : ∀ (rest : List Oper) (k : Nat) (ms : List Nat) (rs rs' : List Rec) (obl : List Prop),ops.toList.drop k = rest → runD P n ops mk tips st0 k rest ms rs = some (rs',obl) → (∀ p ∈ obl,p) →
    ms.length = k → rs.length = k → (∀ i,i < k → OKat P n ops mk st0 ms rs i) → k ≤ ops.size → ∃ ms',ms'.length = ops.size ∧ rs'.length = ops.size ∧ ∀ i,i < ops.size → OKat P n ops mk st0 ms' rs' i
 | [],k,ms,rs,rs',obl,hd,h,_,hm,hr,hok,hk => by
   simp only [runD,Option.some.injEq,Prod.mk.injEq] at h; obtain ⟨rfl,rfl⟩ := h
   have : ops.size ≤ k := by
    have := congrArg List.length hd
    simp at this; omega
   have : k = ops.size := by omega
   subst this
   exact ⟨ms,hm,hr,hok⟩
 | o :: rest,k,ms,rs,rs',obl,hd,h,ho,hm,hr,hok,hk => by
   have hko : ops[k]? = some o := by
    have := congrArg (fun l => l[0]?) hd
    simpa using this
   have hkl : k < ops.size := by
    rcases Nat.lt_or_ge k ops.size with h | h
    · exact h
    · rw [Array.getElem?_eq_none h] at hko; cases hko
   simp only [runD] at h
   split at h
   · rename_i r p hstep
     split at h
     · rename_i hc
       simp only [Bool.and_eq_true] at hc
       split at h
       · rename_i rs2 q hrest
         simp only [Option.some.injEq,Prod.mk.injEq] at h; obtain ⟨rfl,rfl⟩ := h
         refine runD_ok rest (k + 1) _ _ _ q (by rw [← List.drop_drop,hd]; rfl) hrest (fun p hp => ho p (List.mem_append.2 (.inr hp))) (by simp [hm]) (by simp [hr]) ?_ (by omega)
         intro i hi
         rcases Nat.lt_or_ge i k with hik | hik
         · exact (hok i hik).grow
         · have : i = k := by omega
           subst this
           obtain ⟨env,σ,hs,hp⟩ := stepAt_pre hstep
           refine ⟨o,r,maskOf ms o.after.toList 0,_,env,σ,p,hko,by rw [← hr]; simp,by rw [List.getElem?_append_right (by omega),hm]; simp,hs,fun q hq => ho q (List.mem_append.2 (.inl hq)),?_,?_,hc.1,?_⟩
           · rw [List.take_append_of_le_length (by omega),List.take_of_length_le (by omega),← Pd]
             exact hp
           · rw [List.take_append_of_le_length (by omega),List.take_of_length_le (by omega)]
           · intro j rj hj hrj hbit
             rw [List.getElem?_append_left (by omega)] at hrj
             exact pairs_get hc.2 j rj hrj (by rw [Nat.zero_add]; exact hbit)
       · cases h
     · cases h
   · cases h
def Down (ops : Array Oper) (listed : Array Bool) : Prop := ∀ (j : Nat) (o : Oper),ops[j]? = some o → listed.getD j false = true → ∀ e ∈ o.after,Region.binds .any e = true → listed.getD e.on false = true
theorem QI {ms : List Nat} {rs : List Rec} {listed : Array Bool} (hok : ∀ i,i < ops.size → OKat P n ops mk st0 ms rs i) (hml : ms.length = ops.size) (hd : Down ops listed) :
    ∀ (i : Nat) (o : Oper) (m : Nat),ops[i]? = some o → ms[i]? = some m → (∀ e ∈ o.after,Region.binds .any e = true → listed.getD e.on false = true) → ∀ b,m.testBit b = true → listed.getD b false = true := by
 intro i
 induction i using Nat.strongRecOn with
 | ind i ih =>
   intro o m ho hm hall b hb
   have hi : i < ops.size := (Array.getElem?_eq_some_iff.1 ho).1
   obtain ⟨o',r,m',td,env,σ,p,h1,h2,h3,h4,h5,h6,h7,h8,h9⟩ := hok i hi
   rw [ho] at h1; cases h1
   rw [hm] at h3; cases h3
   rw [h7] at hb
   rcases maskOf_bit _ _ hb with h | ⟨e,he,hbe,h⟩
   · simp at h
   · have he' : e ∈ o.after := by simpa using he
     have hon := hall e he' hbe
     rcases h with rfl | h
     · exact hon
     · have hlt := IW h8 e he hbe
       have hel : e.on < ops.size := by omega
       have hme : ms[e.on]? = some ms[e.on] := List.getElem?_eq_getElem (by omega)
       have hg : (ms.take i).getD e.on 0 = ms[e.on] := by
        simp [List.getD,hlt,hme]
       rw [hg] at h
       have hoe : ops[e.on]? = some ops[e.on] := Array.getElem?_eq_getElem hel
       exact ih e.on hlt _ _ hoe hme (hd e.on _ hoe hon) b h
theorem maskLt {ms : List Nat} {rs : List Rec} (hok : ∀ i,i < ops.size → OKat P n ops mk st0 ms rs i) (hml : ms.length = ops.size) : ∀ (i : Nat) (m : Nat),i < ops.size → ms[i]? = some m → ∀ b,m.testBit b = true → b < i := by
 intro i
 induction i using Nat.strongRecOn with
 | ind i ih =>
   intro m hi hm b hb
   obtain ⟨o',r,m',td,env,σ,p,h1,h2,h3,h4,h5,h6,h7,h8,h9⟩ := hok i hi
   rw [hm] at h3; cases h3
   rw [h7] at hb
   rcases maskOf_bit _ _ hb with h | ⟨e,he,hbe,h⟩
   · simp at h
   · have hlt := IW h8 e he hbe
     rcases h with rfl | h
     · exact hlt
     · have hme : ms[e.on]? = some (ms[e.on]'(by omega)) := List.getElem?_eq_getElem (by omega)
       have hg : (ms.take i).getD e.on 0 = ms[e.on]'(by omega) := by simp [List.getD,hlt,hme]
       rw [hg] at h
       have := ih e.on hlt _ (by omega) hme b h
       omega
theorem MS {ms : List Nat} : ∀ (l : List Edge) (m : Nat),(∀ b,m.testBit b = true → (maskOf ms l m).testBit b = true) ∧ ∀ e ∈ l,Region.binds .any e = true → (maskOf ms l m).testBit e.on = true ∧ ∀ b,(ms.getD e.on 0).testBit b = true → (maskOf ms l m).testBit b = true
 | [],m => ⟨fun _ h => h,fun e h => by simp at h⟩
 | e :: l,m => by
   obtain ⟨h1,h2⟩ := MS (ms := ms) l (if Region.binds .any e then m ||| 2 ^ e.on ||| ms.getD e.on 0 else m)
   refine ⟨fun b hb => ?_,fun e' he hbe => ?_⟩
   · refine h1 b ?_
     split
     · simp [Nat.testBit_or,hb]
     · exact hb
   · rcases List.mem_cons.1 he with rfl | he
     · refine ⟨h1 _ ?_,fun b hb => h1 b ?_⟩
       · simp [hbe,Nat.testBit_or]
       · simp only [hbe,if_true,Nat.testBit_or,hb,Bool.or_true]
     · exact h2 e' he hbe
theorem QJ {ms : List Nat} {rs : List Rec} (hok : ∀ i,i < ops.size → OKat P n ops mk st0 ms rs i) (hml : ms.length = ops.size) :
    ∀ (i : Nat) (o : Oper) (m : Nat),ops[i]? = some o → ms[i]? = some m → ∀ (y my : Nat),m.testBit y = true → y < i → ms[y]? = some my → ∀ x,my.testBit x = true → m.testBit x = true := by
 intro i
 induction i using Nat.strongRecOn with
 | ind i ih =>
   intro o m ho hm y my hy hyi hmy x hx
   have hi : i < ops.size := (Array.getElem?_eq_some_iff.1 ho).1
   obtain ⟨o',r,m',td,env,σ,p,h1,h2,h3,h4,h5,h6,h7,h8,h9⟩ := hok i hi
   rw [ho] at h1; cases h1
   rw [hm] at h3; cases h3
   rw [h7] at hy ⊢
   obtain ⟨_,has⟩ := MS (ms := ms.take i) o.after.toList 0
   rcases maskOf_bit _ _ hy with h | ⟨e,he,hbe,h⟩
   · simp at h
   · have hlt := IW h8 e he hbe
     have hel : e.on < ops.size := by omega
     have hme : ms[e.on]? = some ms[e.on] := List.getElem?_eq_getElem (by omega)
     have hg : (ms.take i).getD e.on 0 = ms[e.on] := by simp [List.getD,hlt,hme]
     refine (has e he hbe).2 x ?_
     rw [hg]
     rcases h with rfl | h
     · rw [hmy] at hme; cases hme; exact hx
     · rw [hg] at h
       have hye : y < e.on := by
        obtain ⟨oe,re,me,_,_,_,_,k1,k2,k3,_,_,_,k7,k8,_⟩ := hok e.on hel
        rw [hme] at k3; cases k3
        exact maskLt hok hml e.on _ hel hme y h
       exact ih e.on hlt _ _ (Array.getElem?_eq_getElem hel) hme y my h hye hmy x hx
theorem getD_tf {listed : Array Bool} {j : Nat} (h : listed.getD j true = false) : j < listed.size ∧ listed.getD j false = false := by
 rcases Nat.lt_or_ge j listed.size with h1 | h1
 · refine ⟨h1,?_⟩
   simp [Array.getD,h1] at h ⊢
   exact h
 · simp [Array.getD,Nat.not_lt.2 h1] at h
theorem count_set {listed : Array Bool} {i : Nat} (h : i < listed.size) (hf : listed.getD i false = false) : (listed.setIfInBounds i true).toList.count false + 1 = listed.toList.count false := by
 have hi : listed.toList[i]'(by simpa using h) = false := by simpa [Array.getD,h] using hf
 rw [Array.toList_setIfInBounds,List.count_set (by simpa using h),hi]
 have : 0 < listed.toList.count false := List.count_pos_iff.2 (by rw [← hi]; exact List.getElem_mem _)
 show (List.count false listed.toList - 1 + 0) + 1 = _
 omega
theorem wpAny_draw {ms : List Nat} {rs : List Rec} {Q : Exit → Act → World → Prop} (hok : ∀ i,i < ops.size → OKat P n ops mk st0 ms rs i) (hml : ms.length = ops.size) (hrl : rs.length = ops.size)
    (hQ : ∀ a w,SimF E n mk (replayF (fun _ => true) 0 rs st0.F) a w → Q .normal a w) : ∀ (fuel : Nat) (listed : Array Bool) (a : Act) (w : World),
    listed.size = ops.size → Down ops listed → listed.toList.count false ≤ fuel → SimF E n mk (replayF (fun j => listed.getD j false) 0 rs st0.F) a w → wpAnyIn (wd ro) 0 P .any ops Q fuel listed a w := by
 have hend : ∀ (listed : Array Bool) (a : Act) (w : World),listed.size = ops.size → SimF E n mk (replayF (fun j => listed.getD j false) 0 rs st0.F) a w → Region.ready .any ops listed = [] → Q .normal a w := by
  intro listed a w hsz hsim hr
  have hall : ∀ j,j < ops.size → listed.getD j false = true := by
   intro j
   induction j using Nat.strongRecOn with
   | ind j ih =>
     intro hj
     cases hq : listed.getD j false with
     | true => rfl
     | false =>
       exfalso
       obtain ⟨o,r,m,td,env,σ,p,h1,_,_,_,_,_,_,h8,_⟩ := hok j hj
       have : j ∈ Region.ready .any ops listed := by
        rw [mem_ready]
        refine ⟨?_,o,h1,fun e he hbe => ?_⟩
        · simp [Array.getD,hsz,hj] at hq ⊢; exact hq
        · have := IW h8 e (by simpa using he) hbe
          exact ih e.on this (by omega)
       rw [hr] at this
       cases this
  refine hQ a w ?_
  rw [← JB (D := fun j => listed.getD j false)]
  · exact hsim
  · intro j _ hj
    exact hall j (by omega)
 have hstep : ∀ (listed : Array Bool) (a : Act) (w : World) (K : Act → World → Prop) (i : Nat),listed.size = ops.size → Down ops listed → SimF E n mk (replayF (fun j => listed.getD j false) 0 rs st0.F) a w → i ∈ Region.ready .any ops listed →
     (Down ops (listed.setIfInBounds i true) → i < listed.size → listed.getD i false = false → ∀ a' w',SimF E n mk (replayF (fun j => (listed.setIfInBounds i true).getD j false) 0 rs st0.F) a' w' → K a' w') → wpOpIn (wd ro) 0 P ops Q i K a w := by
  intro listed a w K i hsz hd hsim hi hK
  obtain ⟨h0,o,ho,hall⟩ := mem_ready.1 hi
  obtain ⟨hil,hif⟩ := getD_tf h0
  have hio : i < ops.size := by omega
  obtain ⟨o',r,m,td,env,σ,p,h1,h2,h3,h4,h5,h6,h7,h8,h9⟩ := hok i hio
  rw [ho] at h1; cases h1
  have hset : ∀ j,(listed.setIfInBounds i true).getD j false = (listed.getD j false || decide (j = i)) := by
   intro j
   by_cases e : j = i
   · subst e; simp [Array.getD,hil]
   · rw [getD_set_ne false (fun h => e h.symm)]; simp [e]
  have hdown : Down ops (listed.setIfInBounds i true) := by
   intro j oj hoj hj e he hbe
   rw [hset] at hj ⊢
   rcases Nat.decEq j i with hne | heq
   · have : listed.getD j false = true := by simpa [hne] using hj
     rw [hd j oj hoj this e he hbe]; rfl
   · subst heq
     rw [ho] at hoj; cases hoj
     rw [hall e he hbe]; rfl
  have hmask := QI hok hml hd i o m ho h3 hall
  have hlater : ∀ (j : Nat) (rj : Rec),rs[j]? = some rj → listed.getD j false = true → i < j → P9 r rj = true ∧ LW r rj = true ∧ LW rj r = true := by
   intro j rj hj hlj hij
   have hjl := AL hj
   obtain ⟨oj,rj',mj,_,_,_,_,k1,k2,k3,_,_,_,_,_,k9⟩ := hok j (by omega)
   rw [hj] at k2; cases k2
   refine k9 i r hij h2 ?_
   cases hb : mj.testBit i with
   | false => rfl
   | true =>
     have := QI hok hml hd j oj mj k1 k3 (hd j oj k1 hlj) i hb
     rw [hif] at this; cases this
  have hpre : Pre r (replayF (fun j => listed.getD j false) 0 rs st0.F) := by
   have hB : ∀ j,(m.testBit j && decide (j < i)) = true → listed.getD j false = true := by
    intro j hj
    simp only [Bool.and_eq_true,decide_eq_true_eq] at hj
    exact hmask j hj.1
   rw [H0 (B := fun j => m.testBit j && decide (j < i)) rs 0 st0.F hB]
   · rw [NV]
     refine Pre.replay rs 0 _ ?_ h6
     intro j rj hj hdj
     rw [Nat.zero_add] at hdj
     simp only [Bool.and_eq_true,Bool.not_eq_true'] at hdj
     rcases Nat.lt_trichotomy j i with hlt | heq | hgt
     · refine (h9 j rj hlt hj ?_).2.1
       simpa [hlt] using hdj.2
     · subst heq
       rw [hif] at hdj; cases hdj.1
     · exact (hlater j rj hj hdj.1 hgt).2.2
   · intro x y rx ry hx hy hxy hbx hdx hby
     rw [Nat.zero_add] at hbx hdx hby
     simp only [Bool.and_eq_true,decide_eq_true_eq] at hby
     have hyl := AL hy
     obtain ⟨oy,ry',my,_,_,_,_,k1,k2,k3,_,_,_,k7,k8,k9⟩ := hok y (by omega)
     rw [hy] at k2; cases k2
     refine comm_of (k9 x rx hxy hx ?_).1
     cases hb : my.testBit x with
     | false => rfl
     | true =>
       exfalso
       have : m.testBit x = true := QJ hok hml i o m ho h3 y my hby.1 hby.2 k3 x hb
       have hxi : x < i := by omega
       simp [this,hxi] at hbx
  have hsplit : replayF (fun j => (listed.setIfInBounds i true).getD j false) 0 rs st0.F = r.apF (replayF (fun j => listed.getD j false) 0 rs st0.F) := by
   rw [H0 (B := fun j => listed.getD j false) (D := fun j => (listed.setIfInBounds i true).getD j false) rs 0 st0.F]
   · generalize replayF (fun j => listed.getD j false) 0 rs st0.F = s
     have key : ∀ (l : List Rec) (k : Nat),l[i - k]? = some r → k ≤ i → replayF (fun j => (listed.setIfInBounds i true).getD j false && !listed.getD j false) k l s = r.apF s := by
      intro l
      induction l with
      | nil => intro k h; simp at h
      | cons b l ih =>
        intro k hk hki
        simp only [replayF]
        by_cases e : k = i
        · subst e
          simp at hk; subst hk
          have hz : ((listed.setIfInBounds k true).getD k false && !listed.getD k false) = true := by
           rw [hset,hif]; simp
          rw [if_pos hz]
          apply Ja
          intro j hj _
          rw [hset]
          have : ¬ j = k := by omega
          simp [this]
        · have hz : ((listed.setIfInBounds i true).getD k false && !listed.getD k false) = false := by
            rw [hset]; simp [e]
          rw [if_neg (by rw [hz]; simp)]
          refine ih (k + 1) ?_ (by omega)
          rw [show i - k = (i - (k + 1)) + 1 by omega] at hk
          simpa using hk
     exact key rs 0 (by simpa using h2) (by omega)
   · intro j hj
     rw [hset]; simp [hj]
   · intro x y rx ry hx hy hxy hbx hdx hby
     rw [Nat.zero_add] at hbx hdx hby
     rw [hset,hbx] at hdx
     have : x = i := by simpa using hdx
     subst this
     rw [hx] at h2; cases h2
     exact comm_of (hlater y ry hy hby hxy).1
  have hw := L6 (ro := ro) (Q := Q) (K := K) hsim h4 h5 hpre (fun a' w' hs' => hK hdown hil hif a' w' (by rw [hsplit]; exact hs'))
  unfold wpOpIn
  rw [ho]
  simp only []
  split
  · rename_i hwt; rw [if_pos hwt] at hw; exact hw
  · rename_i hwt; rw [if_neg hwt] at hw; exact ⟨about_wide,hw⟩
 intro fuel
 induction fuel with
 | zero =>
   intro listed a w hsz hd hc hsim
   have hr : Region.ready .any ops listed = [] := by
    cases hq : Region.ready .any ops listed with
    | nil => rfl
    | cons x xs =>
      exfalso
      have hx : x ∈ Region.ready .any ops listed := by rw [hq]; simp
      obtain ⟨h0,_⟩ := mem_ready.1 hx
      obtain ⟨h1,h2⟩ := getD_tf h0
      have : 0 < listed.toList.count false := List.count_pos_iff.2 (by
       have hi : listed.toList[x]'(by simpa using h1) = false := by simpa [Array.getD,h1] using h2
       rw [← hi]; exact List.getElem_mem _)
      omega
   exact ⟨hr,hend listed a w hsz hsim hr⟩
 | succ fuel ih =>
   intro listed a w hsz hd hc hsim
   refine ⟨hend listed a w hsz hsim,fun i hi => ?_⟩
   refine hstep listed a w _ i hsz hd hsim hi ?_
   intro hdown hil hif a' w' hs'
   have := count_set hil hif
   exact ih _ a' w' (by simpa using hsz) hdown (by omega) hs'
theorem Mem.pad {hz : Hp} {φ : Phi} {σ : List AObj} {w : World} (hM : Mem E hz φ σ w) (k : Nat) : Mem E hz φ (σ ++ List.replicate k .dead) w := by
 have hget : ∀ (i : Nat) (o : AObj),(σ ++ List.replicate k AObj.dead)[i]? = some o → o.live = true → σ[i]? = some o := by
  intro i o hi hl
  rcases Nat.lt_or_ge i σ.length with hlt | hge
  · rw [List.getElem?_append_left hlt] at hi; exact hi
  · rw [List.getElem?_append_right hge] at hi
    rw [List.getElem?_replicate] at hi
    split at hi
    · simp at hi; subst hi; cases hl
    · cases hi
 exact
 { knows := hM.knows
   objs := fun i o hi => by
    cases hl : o.live with
    | true => exact hM.objs i o (hget i o hi hl)
    | false =>
      rcases Nat.lt_or_ge i σ.length with hlt | hge
      · rw [List.getElem?_append_left hlt] at hi; exact hM.objs i o hi
      · rw [List.getElem?_append_right hge,List.getElem?_replicate] at hi
        split at hi
        · simp at hi; subst hi; trivial
        · cases hi
   inj := fun i j oi oj g c c' hi hj li lj pi pj => hM.inj i j oi oj g c c' (hget i oi hi li) (hget j oj hj lj) li lj pi pj
   new := fun i o g c hi li pi => hM.new i o g c (hget i o hi li) li pi
   dom := fun i hi => hM.dom i (by simp at hi; omega)
   caps := hM.caps
   os := hM.os,tape := hM.tape,output := hM.output,size := hM.size,kept := hM.kept,hle := hM.hle,hnew := hM.hnew }
theorem SimM.pad {st : St} {a : Act} {w : World} (h : SimM E n mk st a w) (k : Nat) : SimM E n mk ⟨st.env,st.σ ++ List.replicate k .dead⟩ a w := by
 obtain ⟨h1,hz,φ,hM,hdf,hms,hE⟩ := h
 refine ⟨h1,hz,φ,hM.pad k,hdf,msB_of fun i hi => ?_,hE⟩
 have := msB_get hms i hi
 rw [List.getElem?_append_left (AL this)]; exact this
theorem SimM.drew {st : St} {a : Act} {w : World} (h : SimM E n mk st a w) : SimM E n mk st a { w with drawn := w.drawn + 1 } := by
 obtain ⟨h1,hz,φ,hM,h2⟩ := h
 exact ⟨h1,hz,φ,hM.same rfl rfl rfl rfl,h2⟩
theorem At.draw_end {id : Nat} {tips : List (Nat × TipD)} {Q : Exit → Act → World → Prop} {st st' : St} (hm : P.follows .mixedOrders = true) (pad : Nat) (ks ρ : List Nat) (obl : List Prop)
    (h : finR ks ρ (marksOf st.σ) (Rq P n ops tips pad st) = some (st',obl)) (ho : ∀ p ∈ obl,p) (hQ : ∀ a w,Sim E n st' a w → Q .normal a w) : At P ro E n (.region id ops true) Q st := by
 obtain ⟨env,σ,hr,hs'⟩ := MY (E := E) (n := n) h
 unfold Rq at hr
 split at hr
 · rename_i rs p hrun
   simp only [Option.some.injEq,Prod.mk.injEq] at hr
   obtain ⟨rfl,rfl,rfl⟩ := hr
   obtain ⟨ms,hml,hrl,hok⟩ := runD_ok ops.toList 0 [] [] rs p (by simp) hrun ho rfl rfl (fun i hi => by omega) (Nat.zero_le _)
   intro a w hs
   refine wpIn_region_any hm ?_
   refine wpAny_draw (E := E) hok hml hrl ?_ ops.size _ a _ (by simp) ?_ ?_ ?_
   · intro a' w' hsim
     rw [← apAll_F] at hsim
     exact hQ a' w' (hs' a' w' hsim.of)
   · intro j o ho hj
     rcases Nat.lt_or_ge j ops.size with hl | hl
     · simp [Array.getD,hl] at hj
     · simp [Array.getD,Nat.not_lt.2 hl] at hj
   · simp
   · rw [Ja]
     · exact (hs.M.pad pad).drew.F
     · intro j _ hj
       rcases Nat.lt_or_ge j ops.size with hl | hl
       · simp [Array.getD,hl]
       · simp [Array.getD,Nat.not_lt.2 hl]
 · cases hr
def stepN (P : Program) (n : Nat) (ops : Array Oper) (ms : List Nat) (tip : Tip) (o : Oper) (env : Env) (σ : List AObj) : Option (Env × List AObj × List Prop) :=
 match tip.pc with
 | none => Sx P n ops ms tip o env σ
 | some pc =>
   match Ho tip.settle env σ with
   | some (env,σ) =>
     if msB ms σ then
      match stepAt P n ops ms ⟨tip,pc.ρ.take pc.n0,σ.length⟩ o ⟨env,σ ++ List.replicate (pc.ρ.length - pc.n0) .dead⟩ with
      | some (r,p) => some ((r.ap ⟨env,σ ++ List.replicate (pc.ρ.length - pc.n0) .dead⟩).env,(r.ap ⟨env,σ ++ List.replicate (pc.ρ.length - pc.n0) .dead⟩).σ,p)
      | none => none
     else none
   | none => none
def runN (P : Program) (n : Nat) (ops : Array Oper) (ms : List Nat) (tips : List (Nat × Tip)) : Nat → List Oper → Env → List AObj → Option (Env × List AObj × List Prop)
 | _,[],env,σ => some (env,σ,[])
 | k,o :: rest,env,σ =>
   match stepN P n ops ms ((tips.lookup k).getD {}) o env σ with
   | some (env,σ,p) =>
     match runN P n ops ms tips (k + 1) rest env σ with
     | some (env,σ,q) => some (env,σ,p ++ q)
     | none => none
   | none => none
theorem Oy {tip : Tip} {o : Oper} {env env' : Env} {σ σ' : List AObj} {a : Act} {w : World} {obl : List Prop} {K : Act → World → Prop} {Q : Exit → Act → World → Prop} (hsim : SimM E n mk ⟨env,σ⟩ a w) (h : stepN P n ops mk tip o env σ = some (env',σ',obl)) (ho : ∀ p ∈ obl,p)
    (hK : ∀ a' w',SimM E n mk ⟨env',σ'⟩ a' w' → K a' w') : if Region.wanted o (yielded ops a.tmps) then o.wpIn (wd ro) 0 P a w K Q else K (a.put o.dst undef) w := by
 unfold stepN at h
 split at h
 · exact Oz hsim h ho hK
 · rename_i pc hpc
   obtain ⟨hsz,hz,φ,hM,hdf,hms,hE⟩ := hsim
   split at h
   case h_2 => cases h
   rename_i env1 σ1 hset
   obtain ⟨hz1,hM1,hE1⟩ := F1 hM hE hset
   split at h
   case isFalse => cases h
   rename_i hms1
   split at h
   · rename_i r p hst
     simp only [Option.some.injEq,Prod.mk.injEq] at h; obtain ⟨rfl,rfl,rfl⟩ := h
     obtain ⟨envL,σL,hstep,hpre⟩ := stepAt_pre hst
     have hs1 : SimM E n mk ⟨env1,σ1⟩ a w := ⟨hsz,hz1,φ,hM1,hdf,hms1,hE1⟩
     refine L6 (hs1.pad (pc.ρ.length - pc.n0)).F hstep ho hpre ?_
     intro a' w' hs'
     rw [← ap_F] at hs'
     exact hK a' w' hs'.of
   · cases h
theorem runN_sound {tips : List (Nat × Tip)} {Q : Exit → Act → World → Prop} : ∀ (l : List Oper) (k : Nat) {env : Env} {σ : List AObj} {a : Act} {w : World} {env' : Env} {σ' : List AObj} {obl : List Prop},ops.toList.drop k = l → SimM E n mk ⟨env,σ⟩ a w →
    runN P n ops mk tips k l env σ = some (env',σ',obl) → (∀ p ∈ obl,p) → (∀ a' w',SimM E n mk ⟨env',σ'⟩ a' w' → Q .normal a' w') → wpOpsIn (wd ro) 0 P ops Q (List.range' k l.length) a w
 | [],k,env,σ,a,w,env',σ',obl,_,hs,h,_,hQ => by
   simp [runN] at h; obtain ⟨rfl,rfl,rfl⟩ := h
   exact hQ _ _ hs
 | o :: rest,k,env,σ,a,w,env',σ',obl,hd,hs,h,ho,hQ => by
   have hok : ops[k]? = some o := by
    have := congrArg (fun l => l[0]?) hd
    simpa using this
   have hd' : ops.toList.drop (k + 1) = rest := by
    have := congrArg List.tail hd
    simpa using this
   simp only [runN] at h
   split at h
   · rename_i env1 σ1 p hstep
     split at h
     · rename_i env2 σ2 q hrest
       simp at h; obtain ⟨rfl,rfl,rfl⟩ := h
       rw [List.length_cons,List.range'_succ,wpOpsIn_cons]
       have := Oy (ro := ro) (Q := Q) (K := wpOpsIn (wd ro) 0 P ops Q (List.range' (k + 1) rest.length)) hs hstep (fun p hp => ho p (List.mem_append.2 (.inl hp))) (fun a' w' hs' => runN_sound rest (k + 1) hd' hs' hrest (fun p hp => ho p (List.mem_append.2 (.inr hp))) hQ)
       unfold wpOpIn
       rw [hok]
       simp only []
       split
       · rename_i hwt; rw [if_pos hwt] at this; exact this
       · rename_i hwt; rw [if_neg hwt] at this; exact ⟨about_wide,this⟩
     · cases h
   · cases h
theorem At.region_end {id : Nat} {tips : List (Nat × Tip)} {Q : Exit → Act → World → Prop} {st st' : St} (ks ρ : List Nat) (obl : List Prop) (h : finR ks ρ (marksOf st.σ) (runN P n ops (marksOf st.σ) tips 0 ops.toList st.env st.σ) = some (st',obl)) (ho : ∀ p ∈ obl,p)
    (hQ : ∀ a w,Sim E n st' a w → Q .normal a w) : At P ro E n (.region id ops false) Q st := by
 obtain ⟨env,σ,hr,hs'⟩ := MY (E := E) (n := n) h
 intro a w hs
 refine wpIn_region ?_
 have := runN_sound (ro := ro) (Q := Q) ops.toList 0 (by simp) hs.M hr ho (fun a' w' hs2 => hQ a' w' (hs' a' w' hs2))
 rw [← List.range_eq_range'] at this
 simpa using this
def SA (ids : List Nat) (st : St) : Option St := (Ho ids st.env st.σ).bind fun p => if eqN (marksOf p.2) (marksOf st.σ) then some ⟨p.1,p.2⟩ else none
theorem At.settle {c : Code} {Q : Exit → Act → World → Prop} {st st' : St} (ids : List Nat) (h : SA ids st = some st') (h2 : At P ro E n c Q st') : At P ro E n c Q st := by
 intro a w hs
 obtain ⟨h1,hz,φ,hM,hdf,hE⟩ := hs
 obtain ⟨⟨env',σ'⟩,hset,h⟩ := Option.bind_eq_some_iff.1 h
 split at h
 · rename_i hm
   simp at h; subst h
   obtain ⟨hz',hM',hE'⟩ := F1 (a := a) hM hE hset
   exact h2 a w ⟨h1,hz',φ,hM',by rw [Mu hm]; exact hdf,hE'⟩
 · cases h
end
end Go.Ab
