/- Whatever order the operations of a region come in. -/
import Derived.Test.YtgldclhdieafkaaGreatAbDraw2
import Derived.OrdersIn
namespace Go.Ab
open Go.RowKit
def replayF (D : Nat → Bool) : Nat → List Rec → SF → SF
 | _,[],s => s
 | k,r :: l,s => replayF D (k + 1) l (if D k then r.apF s else s)
theorem JB {D D' : Nat → Bool} : ∀ (l : List Rec) (k : Nat) (s : SF),(∀ j,k ≤ j → j < k + l.length → D j = D' j) → replayF D k l s = replayF D' k l s
 | [],_,_,_ => rfl
 | r :: l,k,s,h => by
   simp only [replayF]
   rw [h k (Nat.le_refl _) (by simp)]
   exact JB l (k + 1) _ (fun j h1 h2 => h j (by omega) (by simp; omega))
theorem Ja : ∀ (l : List Rec) (k : Nat) (s : SF) {D : Nat → Bool},(∀ j,k ≤ j → j < k + l.length → D j = false) → replayF D k l s = s
 | [],_,_,_,_ => rfl
 | r :: l,k,s,D,h => by
   simp only [replayF]
   rw [h k (Nat.le_refl _) (by simp)]
   exact Ja l (k + 1) _ (fun j h1 h2 => h j (by omega) (by simp; omega))
theorem KN {D : Nat → Bool} : ∀ (l l2 : List Rec) (k : Nat) (s : SF),replayF D k (l ++ l2) s = replayF D (k + l.length) l2 (replayF D k l s)
 | [],_,_,_ => rfl
 | r :: l,l2,k,s => by
   simp only [replayF,List.cons_append,List.length_cons]
   rw [KN l l2 (k + 1)]
   congr 1
   omega
theorem NV {D : Nat → Bool} (l : List Rec) (i : Nat) (s : SF) : replayF (fun j => D j && decide (j < i)) 0 l s = replayF D 0 (l.take i) s := by
 conv => lhs; rw [← List.take_append_drop i l]
 rw [KN]
 rw [Ja (l.drop i)]
 · apply JB
   intro j _ h
   have : j < i := by simp at h; omega
   simp [this]
 · intro j h1 h2
   rcases Nat.lt_or_ge i l.length with h | h
   · have : ¬ j < i := by simp at h1; omega
     simp [this]
   · have : (l.drop i).length = 0 := by simp; omega
     omega
theorem J2 {B : Nat → Bool} {r : Rec} : ∀ (l : List Rec) (k : Nat) (s : SF),(∀ (j : Nat) (b : Rec),l[j]? = some b → B (k + j) = true → Comm r b) → replayF B k l (r.apF s) = r.apF (replayF B k l s)
 | [],_,_,_ => rfl
 | b :: l,k,s,h => by
   simp only [replayF]
   by_cases hb : B k = true
   · simp only [hb,if_true]
     rw [← h 0 b rfl hb s]
     exact J2 l (k + 1) _ (fun j c hj hc => h (j + 1) c (by simpa using hj) (by rw [show k + (j + 1) = k + 1 + j by omega]; exact hc))
   · simp only [hb]
     exact J2 l (k + 1) _ (fun j c hj hc => h (j + 1) c (by simpa using hj) (by rw [show k + (j + 1) = k + 1 + j by omega]; exact hc))
theorem H0 {B D : Nat → Bool} : ∀ (l : List Rec) (k : Nat) (s : SF),(∀ j,B j = true → D j = true) →
    (∀ (i j : Nat) (ri rj : Rec),l[i]? = some ri → l[j]? = some rj → i < j → B (k + i) = false → D (k + i) = true → B (k + j) = true → Comm ri rj) →
    replayF D k l s = replayF (fun j => D j && !B j) k l (replayF B k l s)
 | [],_,_,_,_ => rfl
 | r :: l,k,s,hBD,hc => by
   have hc' : ∀ (i j : Nat) (ri rj : Rec),l[i]? = some ri → l[j]? = some rj → i < j → B (k + 1 + i) = false → D (k + 1 + i) = true → B (k + 1 + j) = true → Comm ri rj := by
    intro i j ri rj h1 h2 h3 h4 h5 h6
    exact hc (i + 1) (j + 1) ri rj (by simpa using h1) (by simpa using h2) (by omega) (by rw [show k + (i + 1) = k + 1 + i by omega]; exact h4) (by rw [show k + (i + 1) = k + 1 + i by omega]; exact h5) (by rw [show k + (j + 1) = k + 1 + j by omega]; exact h6)
   simp only [replayF]
   by_cases hb : B k = true
   · have hd := hBD k hb
     simp only [hb,hd,if_true,Bool.not_true,Bool.and_false,Bool.false_eq_true,if_false]
     exact H0 l (k + 1) _ hBD hc'
   · have hb' : B k = false := by simpa using hb
     by_cases hd : D k = true
     · simp only [hb',hd,if_true,Bool.not_false,Bool.and_true,Bool.false_eq_true,if_false]
       rw [H0 l (k + 1) _ hBD hc']
       congr 1
       exact J2 l (k + 1) _ (fun j b hj hbj => hc 0 (j + 1) r b rfl (by simpa using hj) (by omega) hb' hd (by rw [show k + (j + 1) = k + 1 + j by omega]; exact hbj))
     · have hd' : D k = false := by simpa using hd
       simp only [hb',hd',Bool.false_and,Bool.false_eq_true,if_false]
       exact H0 l (k + 1) _ hBD hc'
theorem Pre.replay {D : Nat → Bool} {b : Rec} : ∀ (l : List Rec) (k : Nat) (s : SF),(∀ (j : Nat) (r : Rec),l[j]? = some r → D (k + j) = true → LW r b = true) → Pre b s → Pre b (replayF D k l s)
 | [],_,_,_,h => h
 | r :: l,k,s,hc,h => by
   simp only [replayF]
   have hc' : ∀ (j : Nat) (r : Rec),l[j]? = some r → D (k + 1 + j) = true → LW r b = true := fun j r' hj hd => hc (j + 1) r' (by simpa using hj) (by rw [show k + (j + 1) = k + 1 + j by omega]; exact hd)
   split
   · rename_i hd
     exact Pre.replay l (k + 1) _ hc' (h.pres (hc 0 r rfl hd))
   · exact Pre.replay l (k + 1) _ hc' h
structure TipD where
 tip : Tip := {}
 T : List Nat := []
 r : Nat := 0
def maskOf (ms : List Nat) : List Edge → Nat → Nat
 | [],m => m
 | e :: l,m => maskOf ms l (if Region.binds .any e then m ||| 2 ^ e.on ||| ms.getD e.on 0 else m)
theorem maskOf_bit {ms : List Nat} {b : Nat} : ∀ (l : List Edge) (m : Nat),(maskOf ms l m).testBit b = true → m.testBit b = true ∨ ∃ e ∈ l,Region.binds .any e = true ∧ (e.on = b ∨ (ms.getD e.on 0).testBit b = true)
 | [],m,h => .inl h
 | e :: l,m,h => by
   rcases maskOf_bit l _ h with h | ⟨e',he,hb⟩
   · split at h
     · rename_i hbe
       simp only [Nat.testBit_or,Bool.or_eq_true] at h
       rcases h with (h | h) | h
       · exact .inl h
       · rw [Nat.testBit_two_pow] at h
         exact .inr ⟨e,by simp,hbe,.inl (by simpa using h)⟩
       · exact .inr ⟨e,by simp,hbe,.inr h⟩
     · exact .inl h
   · exact .inr ⟨e',by simp [he],hb⟩
def replay (m : Nat) : Nat → List Rec → St → St
 | _,[],st => st
 | k,r :: l,st => replay m (k + 1) l (if m.testBit k then r.ap st else st)
theorem Pd (m : Nat) : ∀ (l : List Rec) (k : Nat) (st : St),(replay m k l st).F = replayF m.testBit k l st.F
 | [],_,_ => rfl
 | r :: l,k,st => by
   simp only [replay,replayF]
   rw [Pd m l (k + 1)]
   congr 1
   split
   · exact ap_F r st
   · rfl
def OR : List Rec → St → St
 | [],st => st
 | r :: l,st => OR l (r.ap st)
theorem apAll_F : ∀ (l : List Rec) (k : Nat) (st : St),(OR l st).F = replayF (fun _ => true) k l st.F
 | [],_,_ => rfl
 | r :: l,k,st => by
   simp only [OR,replayF,if_true]
   rw [apAll_F l (k + 1),ap_F]
def Ku (T : List Nat) : Nat → List AObj → List AObj
 | _,[] => []
 | i,o :: l => (if T.contains i then o else .dead) :: Ku T (i + 1) l
theorem Mk {T : List Nat} : ∀ (l : List AObj) (k i : Nat) (o : AObj),(Ku T k l)[i]? = some o → o.live = true → l[i]? = some o
 | [],_,i,o,h,_ => by simp [Ku] at h
 | p :: l,k,0,o,h,hl => by
   simp [Ku] at h
   split at h
   · simp [h]
   · subst h; cases hl
 | p :: l,k,i + 1,o,h,hl => by
   simp [Ku] at h
   simpa using Mk l (k + 1) i o h hl
def Sy (ops : Array Oper) (o : Oper) : List Nat := o.looksAt ops
def LB (k : Nat) : List Edge → Bool
 | [] => true
 | e :: l => (!(Region.binds .any e) || Nat.blt e.on k) && LB k l
theorem IW {k : Nat} : ∀ {l : List Edge},LB k l = true → ∀ e ∈ l,Region.binds .any e = true → e.on < k
 | [],_,e,h,_ => by simp at h
 | e :: l,hh,e',h,hb => by
   simp only [LB,Bool.and_eq_true] at hh
   rcases List.mem_cons.1 h with rfl | h
   · have := hh.1; rw [hb] at this; simpa using this
   · exact IW hh.2 e' h hb
def Nl (lo hi : Nat) : Env → Bool
 | [] => true
 | p :: l => p.2.noM lo hi && Nl lo hi l
theorem envFree_get {lo hi : Nat} : ∀ {l : Env},Nl lo hi l = true → ∀ t x,l.lookup t = some x → x.noM lo hi = true
 | [],_,t,x,h => by simp at h
 | (k,y) :: l,hh,t,x,h => by
   simp only [Nl,Bool.and_eq_true] at hh
   simp only [List.lookup] at h
   split at h
   · simp at h; subst h; exact hh.1
   · exact envFree_get hh.2 t x h
def Md (lo hi : Nat) : List AObj → Bool
 | [] => true
 | o :: l => o.noM lo hi && Md lo hi l
theorem objFree_get {lo hi : Nat} : ∀ {l : List AObj},Md lo hi l = true → ∀ (i : Nat) (o : AObj),l[i]? = some o → o.noM lo hi = true
 | [],_,i,o,h => by simp at h
 | p :: l,hh,0,o,h => by simp only [Md,Bool.and_eq_true] at hh; simp at h; subst h; exact hh.1
 | p :: l,hh,i + 1,o,h => by simp only [Md,Bool.and_eq_true] at hh; exact objFree_get hh.2 i o (by simpa using h)
def preB (r : Rec) (st : St) : Bool := Nl r.lo r.hi st.env && Md r.lo r.hi st.σ && Nat.ble r.hi st.σ.length
def PX (m : Nat) (r : Rec) : Nat → List Rec → Bool
 | _,[] => true
 | k,b :: l => (m.testBit k || (P9 b r && LW b r && LW r b)) && PX m r (k + 1) l
theorem pairs_get {m : Nat} {r : Rec} : ∀ {l : List Rec} {k : Nat},PX m r k l = true → ∀ (j : Nat) (b : Rec),l[j]? = some b → m.testBit (k + j) = false → P9 b r = true ∧ LW b r = true ∧ LW r b = true
 | [],_,_,j,b,h,_ => by simp at h
 | c :: l,k,hh,0,b,h,hm => by
   simp only [PX,Bool.and_eq_true,Bool.or_eq_true] at hh
   simp at h; subst h
   rcases hh.1 with h1 | h1
   · rw [Nat.add_zero,h1] at hm; cases hm
   · exact ⟨h1.1.1,h1.1.2,h1.2⟩
 | c :: l,k,hh,j + 1,b,h,hm => by
   simp only [PX,Bool.and_eq_true,Bool.or_eq_true] at hh
   exact pairs_get hh.2 j b (by simpa using h) (by rw [show k + 1 + j = k + (j + 1) by omega]; exact hm)
def stepAt (P : Program) (n : Nat) (ops : Array Oper) (mk : List Nat) (td : TipD) (o : Oper) (st : St) : Option (Rec × List Prop) :=
 match OA P n ops mk td.tip o (Nh (Sy ops o) st.env) (Ku td.T 0 (st.σ.take td.r)) with
 | some (r,p) => if preB r st then some (r,p) else none
 | none => none
def runD (P : Program) (n : Nat) (ops : Array Oper) (mk : List Nat) (tips : List (Nat × TipD)) (st0 : St) : Nat → List Oper → List Nat → List Rec → Option (List Rec × List Prop)
 | _,[],_,rs => some (rs,[])
 | k,o :: rest,ms,rs =>
   match stepAt P n ops mk ((tips.lookup k).getD {}) o (replay (maskOf ms o.after.toList 0) 0 rs st0) with
   | some (r,p) =>
     if LB k o.after.toList && PX (maskOf ms o.after.toList 0) r 0 rs then
      match runD P n ops mk tips st0 (k + 1) rest (ms ++ [maskOf ms o.after.toList 0]) (rs ++ [r]) with
      | some (rs',q) => some (rs',p ++ q)
      | none => none
     else none
   | none => none
def Rq (P : Program) (n : Nat) (ops : Array Oper) (tips : List (Nat × TipD)) (pad : Nat) (st : St) : Option (Env × List AObj × List Prop) :=
 match runD P n ops (marksOf st.σ) tips ⟨st.env,st.σ ++ List.replicate pad .dead⟩ 0 ops.toList [] [] with
 | some (rs,p) => some ((OR rs ⟨st.env,st.σ ++ List.replicate pad .dead⟩).env,(OR rs ⟨st.env,st.σ ++ List.replicate pad .dead⟩).σ,p)
 | none => none
end Go.Ab
