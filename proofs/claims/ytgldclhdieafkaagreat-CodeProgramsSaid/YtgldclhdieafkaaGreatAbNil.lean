/- A slice against nil: what comes behind has to hold both ways. -/
import Derived.Test.YtgldclhdieafkaaGreatAbRange
import Derived.Scope
namespace Go.Ab
open Go.RowKit
section
variable {F : Fence} {m : Nat} {P : Program} {Q : Exit → Act → World → Prop} {a : Act} {w : World}
theorem PI {c : Code} (h : c.wpIn F m P (Exit.noGoto Q) a w) : (Code.scope c).wpIn F m P Q a w := by
 intro b k cs hro hb hr
 have h0 : (lone (b.atR a (.code (.scope c) :: k)) cs w).fenced P F := fenced_calm hb hr rfl
 have s0 : step P (lone (b.atR a (.code (.scope c) :: k)) cs w) = .next (lone (b.atR a (.code c :: .inScope c :: k)) cs w) := step_lone_go (by simp [stepG,stepG.exec,Frame.atR])
 have s1 : ∀ a w,step P (lone (b.atR a (.inScope c :: k)) cs w) = .next (lone (b.atR a k) cs w) := fun a w => step_lone_go (by simp [stepG,stepG.exec,Frame.atR])
 obtain ⟨e,a₁,w₁,hq,harr⟩ := h b (.inScope c :: k) cs hro hb hr
 cases e with
 | normal => exact ⟨.normal,a₁,w₁,hq,.head h0 s0 (StepsIn.trans harr (.one (fenced_calm hb hr rfl) (s1 _ _)))⟩
 | exit id =>
   have hx : exitTo id (.inScope c :: k) = exitTo id k := by simp [exitTo]
   exact ⟨.exit id,a₁,w₁,hq,fun k' hk => .head h0 s0 (harr.1 k' (by rw [hx]; exact hk)),fun hr' hk => let ⟨k₁,h1,h2⟩ := harr.2 hr' (by rw [hx]; exact hk); ⟨k₁,h1,.head h0 s0 h2⟩⟩
 | goto l => exact hq.elim
 | ret => exact ⟨_,a₁,w₁,hq,.of_steps (.one h0 s0) harr⟩
 | panic ch => exact ⟨_,a₁,w₁,hq,.of_steps (.one h0 s0) harr⟩
 | outgrown => exact ⟨_,a₁,w₁,hq,.of_steps (.one h0 s0) harr⟩
end
section
variable {P : Program} {ro : Option Nat} {E : Entry} {n : Nat}
theorem At.scope {c : Code} {Q : Exit → Act → World → Prop} {st : St} (h : At P ro E n c (Exit.noGoto Q) st) : At P ro E n (.scope c) Q st := fun a w hs => PI (h a w hs)
theorem nark {st st' : St} {q : Act → World → Prop} (ks ρ : List Nat) (h : narR ks ρ st = some st') (hq : ∀ a w,Sim E n st' a w → q a w) : ∀ a w,Sim E n st a w → q a w := fun a w hs => hq a w (hs.nar h)
theorem P5 {T e : TypeId} {w : World} (hu : P.underlying T = some (.slice e)) (xo yo : Operand) (s : Option Addr) (l c : Nat) :
    (do eqGuard .eql T xo yo (.slice s l c) (.slice none 0 0); binOp .eql T (.slice s l c) (.slice none 0 0) : Sem Value).run P w = .ok (.bool s.isNone) w := by
 have hg : (eqGuard .eql T xo yo (.slice s l c) (.slice none 0 0)).run P w = .ok () w := by unfold eqGuard; split <;> rfl
 have he : (Op.equal T (.slice s l c) (.slice none 0 0)).run P w = .ok s.isNone w := by
  have h : ∀ d : Nat,(Op.equalIn (d + 1) T (.slice s l c) (.slice none 0 0)).run P w = .ok s.isNone w := by
   intro d
   unfold Op.equalIn
   rw [Sem.run_bind,run_underlying hu]
   cases s <;> rfl
  exact h 9999
 rw [Sem.run_bind,hg]
 simp only [Result.andThen_ok]
 show (do pure (.bool (← Op.equal T (.slice s l c) (.slice none 0 0))) : Sem Value).run P w = _
 rw [Sem.run_bind,he]
 rfl
theorem At.nilEq {id : Nat} {o1 o2 : Oper} {t0 t3 t4 : Nat} {T T2 e : TypeId} {tt : Bool} {k : Nat} {xs : List D} {st : St} {Q : Exit → Act → World → Prop}
    (h1 : o1.op = .move (.tmp t0)) (h1d : o1.dst = some t3) (h1g : o1.guard = none) (h2 : o2.op = .binOp .eql T (.tmp t3) (.const (.slice none 0 0)) T2) (h2d : o2.dst = some t4) (h2g : o2.guard = none)
    (ht3 : t3 < n) (ht4 : t4 < n) (hu : P.underlying T = some (.slice e)) (hl : st.env.lookup t0 = some (.d (.list tt k xs)))
    (h : ∀ b : Bool,(b = true → k = 0) → ∀ a w,Sim E n ⟨Env.put (Env.put st.env t3 (.d (.list tt k xs))) t4 (.d (.bool b)),st.σ⟩ a w → Q .normal a w) : At P ro E n (.region id #[o1,o2] false) Q st := by
 intro a w hs
 refine wpIn_region ?_
 obtain ⟨hsz,hz,φ,hM,hdf,hE⟩ := hs
 obtain ⟨v,hv,hr⟩ := hE t0 _ hl
 have hsem : ∀ (o : Oper) (a : Act),L1 o.op = false → o.semAt (wd ro).round a.eval = execOp a.eval o := fun o a ho => Oper.semAt_eq _ _ _ (Mg ho)
 have wanted : ∀ (o : Oper) (y : Nat → Option Bool),o.guard = none → Region.wanted o y = true := fun o y hg => by unfold Region.wanted; rw [hg]
 show wpOpsIn (wd ro) 0 P #[o1,o2] Q [0,1] a w
 rw [wpOpsIn_cons]
 unfold wpOpIn
 simp only [List.getElem?_toArray,List.getElem?_cons_zero]
 rw [if_pos (wanted o1 _ h1g)]
 refine ⟨about_wide,?_⟩
 rw [hsem o1 a (by rw [h1]; rfl)]
 have e1 : (execOp a.eval o1).run P w = .ok (.value v) w := by
  unfold execOp; rw [h1]
  have : a.eval (.tmp t0) = v := by simp [Act.eval,Array.getD_eq_getD_getElem?,hv]
  rw [← this]; rfl
 rw [e1]
 show wpOpsIn (wd ro) 0 P #[o1,o2] Q [1] (a.put o1.dst v) w
 rw [wpOpsIn_cons]
 unfold wpOpIn
 simp only [List.getElem?_toArray,List.getElem?_cons_zero,List.getElem?_cons_succ]
 rw [if_pos (wanted o2 _ h2g)]
 refine ⟨about_wide,?_⟩
 rw [hsem o2 _ (by rw [h2]; rfl),h1d]
 have hER : Hj hz φ st.env a := hE
 have hE1 : Hj hz φ (Env.putO st.env (some t3) (.d (.list tt k xs))) (a.put (some t3) v) := hER.put (t := some t3) hsz (by simpa [Ns] using ht3) hr
 have hv3 : (a.put (some t3) v).eval (.tmp t3) = v := by
  have : t3 < a.tmps.size := by rw [hsz]; exact ht3
  simp [Act.eval,Act.put,Array.getD_eq_getD_getElem?,this]
 obtain ⟨s,l,c,rfl,hk⟩ : ∃ s l c,v = .slice s l c ∧ (s.isNone = true → k = 0) := by
  cases hr with
  | d hd =>
  cases hd with
  | list0 a0 cap _ _ _ => exact ⟨_,_,_,rfl,fun _ => rfl⟩
  | list g off n0 cap _ _ arr e0 fr f hg hn hm ht hx hr' => exact ⟨_,_,_,rfl,fun h => by cases h⟩
 have e2 : (execOp (a.put (some t3) (.slice s l c)).eval o2).run P w = .ok (.value (.bool s.isNone)) w := by
  unfold execOp; rw [h2]
  simp only [hv3]
  have hc : (a.put (some t3) (.slice s l c)).eval (.const (.slice none 0 0)) = .slice none 0 0 := rfl
  rw [hc]
  have := P5 (P := P) (w := w) hu (.tmp t3) (.const (.slice none 0 0)) s l c
  rw [Sem.run_bind,this]; rfl
 rw [e2]
 show wpOpsIn (wd ro) 0 P #[o1,o2] Q [] ((a.put (some t3) (.slice s l c)).put o2.dst (.bool s.isNone)) w
 refine h s.isNone hk _ w ?_
 rw [h2d]
 exact ⟨by rw [IJ,IJ]; exact hsz,hz,φ,hM,by rw [put_defers,put_defers]; exact hdf,Hj.put (n := n) hE1 (by rw [IJ]; exact hsz) (t := some t4) (by simpa [Ns] using ht4) (.d (.bool _))⟩
end
end Go.Ab
