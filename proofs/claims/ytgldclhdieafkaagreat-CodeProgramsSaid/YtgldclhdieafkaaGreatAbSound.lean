/- Operations one behind the other come to what is reckoned. -/
import Derived.Test.YtgldclhdieafkaaGreatAbCall
namespace Go.Ab
open Go.RowKit
theorem lookup_put (env : Env) (t : Nat) (x : PV) (s : Nat) : (env.put t x).lookup s = if s = t then some x else env.lookup s := by
 unfold Env.put
 by_cases h : s = t
 · subst h; simp
 · have hb : (s == t) = false := by simpa using h
   simp only [List.lookup,hb,h,if_false]
   induction env with
   | nil => rfl
   | cons p l ih =>
     obtain ⟨k,y⟩ := p
     by_cases hk : k = t
     · have hs : (s == k) = false := by simp; omega
       simp only [List.filter_cons,hk,beq_self_eq_true,Bool.not_true,Bool.false_eq_true,if_false]
       rw [hk] at hs
       simp only [List.lookup,hs]
       exact ih
     · have hkb : (k == t) = false := by simpa using hk
       simp only [List.filter_cons,hkb,Bool.not_false,if_true,List.lookup]
       split
       · rfl
       · exact ih
theorem Jq (env : Env) (f : PV → PV) (s : Nat) : (env.map fun p => (p.1,f p.2)).lookup s = (env.lookup s).map f := by
 induction env with
 | nil => rfl
 | cons p l ih =>
   obtain ⟨k,y⟩ := p
   simp only [List.map_cons,List.lookup]
   split
   · rfl
   · exact ih
def Hj (hz : Hp) (φ : Phi) (env : Env) (a : Act) : Prop := ∀ t x,env.lookup t = some x → ∃ v,a.tmps[t]? = some v ∧ RelV hz φ v x
section
variable {P : Program} {E : Entry} {n : Nat} {hz hz' : Hp} {φ φ' : Phi} {σ σ' : List AObj} {w w' : World} {env env' : Env} {a : Act}
theorem Hj.eval (h : Hj hz φ env a) : ∀ x y,env.eval x = some y → RelV hz φ (a.eval x) y := by
 intro x y hx
 cases x with
 | tmp t =>
   obtain ⟨v,hv,hr⟩ := h t y hx
   simp only [Act.eval,Array.getD_eq_getD_getElem?,hv,Option.getD_some]
   exact hr
 | const v => exact Ig hx
 | func f =>
   simp [Env.eval] at hx; subst hx
   exact .fn _ _ _ _ _ rfl rfl (by simp) (by simp)
 | global g => simp [Env.eval] at hx
theorem Hj.tr (h : Hj hz φ env a) {e : Option (Nat × (Nat → PV))} (ht : ∀ u x,RelV hz φ u x → RelV hz' φ' u (x.effs e)) : Hj hz' φ' (env.effs e) a := by
 intro t x hx
 cases e with
 | none => obtain ⟨v,hv,hr⟩ := h t x hx; exact ⟨v,hv,ht _ _ hr⟩
 | some p =>
   obtain ⟨i,r⟩ := p
   simp only [Env.effs,Jq] at hx
   obtain ⟨y,hy,rfl⟩ := Option.map_eq_some_iff.1 hx
   obtain ⟨v,hv,hr⟩ := h t y hy
   exact ⟨v,hv,ht _ _ hr⟩
theorem Hj.put (h : Hj hz φ env a) (hs : a.tmps.size = n) {t : Option Nat} (ht : Ns n t = true) {v : Value} {x : PV} (hv : RelV hz φ v x) : Hj hz φ (env.putO t x) (a.put t v) := by
 cases t with
 | none => exact h
 | some t =>
   simp [Ns] at ht
   intro s y hy
   simp only [Env.putO,lookup_put] at hy
   simp only [Act.put,Array.getElem?_setIfInBounds]
   by_cases e : s = t
   · subst e
     simp at hy; subst hy
     exact ⟨v,by simp [hs,ht],hv⟩
   · simp [e] at hy
     obtain ⟨u,hu,hr⟩ := h s y hy
     exact ⟨u,by rw [if_neg (fun e2 => e e2.symm)]; exact hu,hr⟩
theorem IJ (t : Option Nat) (v : Value) : (a.put t v).tmps.size = a.tmps.size := by cases t <;> simp [Act.put]
theorem put_defers (t : Option Nat) (v : Value) : (a.put t v).defers = a.defers := by cases t <;> rfl
theorem F1 : ∀ {l : List Nat} {hz : Hp} {σ : List AObj} {env : Env},Mem E hz φ σ w → Hj hz φ env a → Ho l env σ = some (env',σ') → ∃ hz',Mem E hz' φ σ' w ∧ Hj hz' φ env' a
 | [],hz,σ,env,hM,hE,h => by simp [Ho] at h; obtain ⟨rfl,rfl⟩ := h; exact ⟨hz,hM,hE⟩
 | i :: l,hz,σ,env,hM,hE,h => by
   simp only [Ho] at h
   split at h
   · rename_i e sz cs hi
     obtain ⟨hz',hle,hrow,hM'⟩ := hM.settle hi
     refine F1 hM' ?_ h
     exact hE.tr (e := some (i,fun n => .d (.list false n cs))) (fun u x hr => RelV.sub hle (fun _ _ _ h => h) hrow hr)
   · cases h
theorem Hn {ops : Array Oper} {o : Oper} {b : Bool} (hE : Hj hz φ env a) (h : M5 ops env o = some b) : Region.wanted o (yielded ops a.tmps) = b := by
 unfold M5 at h
 unfold Region.wanted
 split at h
 · rename_i hg; rw [hg]; simpa using h
 · rename_i j want hg
   rw [hg]
   split at h
   · rename_i t ht
     have key : ∀ c,env.lookup t = some (.d (.bool c)) → yielded ops a.tmps j = some c := by
      intro c hc
      obtain ⟨v,hv,hr⟩ := hE t _ hc
      have := hr.inv_bool; subst this
      simp only [yielded,ht,Option.bind_some,hv]
     split at h
     · rename_i hc
       simp only [key _ hc]
       injection h with h; subst h; cases want <;> rfl
     · rename_i hc
       simp only [key _ hc]
       injection h with h; subst h; cases want <;> rfl
     · rename_i hc
       obtain ⟨v,hv,hr⟩ := hE t _ hc
       cases hr
       injection h with h; subst h
       simp only [yielded,ht,Option.bind_some,hv]
       cases want <;> rfl
     · cases h
   · cases h
theorem marks_keep {ms : List Nat} {e : Option (Nat × (Nat → PV))} (hM : Mem E hz φ σ w) (hb : msB ms σ = true) (ht : ∀ u x,RelV hz φ u x → RelV hz' φ' u (x.effs e)) (he : effNo ms e = true) : G5 φ ms = G5 φ' ms := by
 unfold G5
 apply List.map_congr_left
 intro i hi
 have hm := msB_get hb i hi
 obtain ⟨g,c,h1,_⟩ := hM.objs i _ hm
 have hr := ht (.pointer (some ⟨g,0,none⟩)) (.ptr i 0) (.ptr i 0 g c h1)
 have hk : (PV.ptr i 0).effs e = .ptr i 0 := by
  cases e with
  | none => rfl
  | some p =>
    obtain ⟨j,r⟩ := p
    have : i ≠ j := by
     rintro rfl
     have h' : ms.contains i = true := by simpa using hi
     simp only [effNo,h',Bool.not_true] at he
     cases he
    simp [PV.effs,PV.sub,this]
 rw [hk] at hr
 cases hr with
 | ptr _ _ _ c' h => simp only [plc,h1,h]
def SimM (E : Entry) (n : Nat) (ms : List Nat) (st : St) (a : Act) (w : World) : Prop :=
 a.tmps.size = n ∧ ∃ hz φ,Mem E hz φ st.σ w ∧ a.defers = G5 φ ms ∧ msB ms st.σ = true ∧ ∀ t x,st.env.lookup t = some x → ∃ v,a.tmps[t]? = some v ∧ RelV hz φ v x
theorem about_wide {o : Oper} {ro : Option Nat} : ∀ f,o.about P w a.eval = some f → (wd ro).fn f := fun _ _ => trivial
theorem Oz {ro : Option Nat} {ops : Array Oper} {ms : List Nat} {tip : Tip} {o : Oper} {obl : List Prop} {K : Act → World → Prop} {Q : Exit → Act → World → Prop} (hsim : SimM E n ms ⟨env,σ⟩ a w) (h : Sx P n ops ms tip o env σ = some (env',σ',obl)) (ho : ∀ p ∈ obl,p)
    (hK : ∀ a' w',SimM E n ms ⟨env',σ'⟩ a' w' → K a' w') : if Region.wanted o (yielded ops a.tmps) then o.wpIn (wd ro) 0 P a w K Q else K (a.put o.dst undef) w := by
 obtain ⟨hsz,hz,φ,hM,hdf,hms,hE0⟩ := hsim
 have hE : Hj hz φ env a := hE0
 unfold Sx at h
 split at h
 · rename_i hc
   simp at hc
   have hsem : o.semAt (wd ro).round a.eval = execOp a.eval o := Oper.semAt_eq _ _ _ (Mg hc.2)
   split at h
   · rename_i hw
     simp at h; obtain ⟨rfl,rfl,rfl⟩ := h
     rw [Hn hE hw]
     simp only [Bool.false_eq_true,if_false]
     exact hK _ _ ⟨by rw [IJ]; exact hsz,hz,φ,hM,by rw [put_defers]; exact hdf,hms,hE.put hsz hc.1 (.tup #[] [] rfl (fun j x hj => by simp at hj))⟩
   · rename_i hw
     rw [Hn hE hw]
     simp only [if_true]
     split at h
     · rename_i env1 σ1 hset
       obtain ⟨hz1,hM1,hE1⟩ := F1 hM hE hset
       split at h
       case isFalse => cases h
       rename_i hms1
       split at h
       · rename_i res hres
         split at h
         · rename_i f args ts hop
           split at h
           · rename_i ps hps
             split at h
             · rename_i hcall
               simp at hcall
               obtain ⟨⟨hd,hrd⟩,hca⟩ := hcall
               simp at h; obtain ⟨rfl,rfl,rfl⟩ := h
               have hD : RW P f (PV.looses ps) res := ho _ (by simp)
               obtain ⟨l1,l2⟩ := If hE1.eval hps
               have hrun : (execOp a.eval o).run P w = .ok (.enter f (args.map a.eval)) w := by
                have e1 : execOp a.eval o = callFunc f (#[] ++ args.map a.eval ++ #[]) := by
                 unfold execOp
                 rw [hop]
                 rfl
                rw [e1,I9 hca]
                simp
               refine ⟨about_wide,?_⟩
               rw [hsem,hrun,Oper.uponIn_enter]
               refine ⟨fun h => (by cases h),callsIn_wide.2 ?_⟩
               refine (hD w hz1 (args.map a.eval) hM1.knows (by simp [l1,IR]) (fun j x hj => ?_)).mono ?_
               · obtain ⟨x0,hj0,rfl⟩ := J3 hj
                 obtain ⟨y,hy,hr⟩ := l2 j x0 hj0
                 have hy' : args[j]? = some y := by simpa using hy
                 have : (args.map a.eval).getD j undef = a.eval y := by simp [Array.getD_eq_getD_getElem?,hy']
                 rw [this]
                 exact (RelV.data (Hp.le_refl _) hr (IX hd hj0)).loose
               · rintro e w' ⟨v,hz2,rfl,r1,r2,r3,r4,r5⟩
                 exact hK _ _ ⟨by rw [IJ]; exact hsz,hz2,φ,hM1.call r2 r3 r4 r5,by rw [put_defers]; exact hdf,hms1,Hj.put (fun t x hx => by
                  obtain ⟨u,hu,hr⟩ := hE1 t x hx
                  exact ⟨u,hu,hr.mono r3 (Phi.le_refl _)⟩) hsz hc.1 (RelV.data (Hp.le_refl _) r1 hrd)⟩
             · cases h
           · cases h
         · cases h
       · split at h
         · rename_i out0 hout0
           have hex : ∃ out : Out,Good P E (execOp a.eval o) w hz1 φ out ∧ (Env.effs out.eff env1).putO o.dst out.res = env' ∧ out.σ = σ' ∧ msB ms out.σ = true ∧ effNo ms out.eff = true := by
            split at h
            · split at h
              · rename_i hcc
                simp at h; obtain ⟨rfl,rfl,rfl⟩ := h
                simp only [Bool.and_eq_true] at hcc
                exact ⟨out0,Ll hM1 hE1.eval hout0 ho,rfl,rfl,hcc.1,hcc.2⟩
              · cases h
            · split at h
              · rename_i f _ out1 hout1
                split at h
                · rename_i hcc
                  simp at h; obtain ⟨rfl,rfl,rfl⟩ := h
                  simp only [Bool.and_eq_true] at hcc
                  obtain ⟨e1,e2,e3,e4⟩ := NX hout1 ho
                  refine ⟨out0,Ll hM1 hE1.eval hout0 e4,?_,?_,?_,?_⟩
                  · rw [e1,e3]
                  · rw [e2]
                  · rw [← e2]; exact hcc.1
                  · rw [← e3]; exact hcc.2
                · cases h
              · cases h
           obtain ⟨out,hgood,rfl,rfl,hm2,hn2⟩ := hex
           obtain ⟨nx,v,w',hz2,φ2,hrun,hnx,hM2,hr,htr⟩ := hgood
           have fin : K (a.put o.dst v) w' := hK _ _ ⟨by rw [IJ]; exact hsz,hz2,φ2,hM2,by rw [put_defers,hdf]; exact marks_keep hM1 hms1 htr hn2,hm2,(hE1.tr htr).put hsz hc.1 hr⟩
           refine ⟨about_wide,?_⟩
           rw [hsem,hrun]
           rcases hnx with rfl | ⟨rfl,rfl⟩
           · exact fin
           · exact fin
         · cases h
     · cases h
   · cases h
 · cases h
end
end Go.Ab
