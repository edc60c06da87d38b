/- Steps that may come in several orders: what one step changes, and when two of them do not meet. -/
import Derived.Test.YtgldclhdieafkaaGreatAbFrame
namespace Go.Ab
open Go.RowKit
structure Rec where
 dst : Option Nat
 res : PV
 eff : List Nat
 upd : List (Option AObj)
 env : Env
 loc : List AObj
 lo : Nat
 hi : Nat
structure SF where
 e : Nat → Option PV
 σ : List AObj
def St.F (st : St) : SF := ⟨fun t => st.env.lookup t,st.σ⟩
def Rec.ap (r : Rec) (st : St) : St := ⟨Env.putO (st.env.map fun p => (p.1,effO r.eff p.2)) r.dst r.res,overlay r.upd (st.σ.map (effA r.eff))⟩
def Rec.apF (r : Rec) (s : SF) : SF := ⟨fun t => if r.dst = some t then some r.res else (s.e t).map (effO r.eff),overlay r.upd (s.σ.map (effA r.eff))⟩
theorem OI (env : Env) (d : Option Nat) (x : PV) (t : Nat) : (env.putO d x).lookup t = if d = some t then some x else env.lookup t := by
 cases d with
 | none => simp [Env.putO]
 | some s =>
   simp only [Env.putO]
   have h := lookup_put env s x t
   rw [h]
   by_cases e : t = s
   · subst e; simp
   · have e2 : ¬ s = t := fun h => e h.symm
     simp [e,e2]
theorem ap_F (r : Rec) (st : St) : (r.ap st).F = r.apF st.F := by
 unfold Rec.ap Rec.apF St.F
 congr 1
 funext t
 rw [OI,Jq]
mutual
def PV.noK (k : Nat) : PV → Bool
 | .d _ => true
 | .ptr i _ => !(Nat.beq k (2 * i))
 | .row i _ => !(Nat.beq k (2 * i + 1))
 | .view i _ _ => !(Nat.beq k (2 * i))
 | .yld i => !(Nat.beq k (2 * i))
 | .mapv i => !(Nat.beq k (2 * i))
 | .pp _ => true
 | .fn _ a b => PV.noKs k a && PV.noKs k b
 | .agg cs => PV.noKs k cs
 | .dagg _ => true
 | .tup cs => PV.noKs k cs
 | .undef => true
def PV.noKs (k : Nat) : List PV → Bool
 | [] => true
 | x :: l => PV.noK k x && PV.noKs k l
end
def AObj.noK (k : Nat) : AObj → Bool
 | .blk _ cs => PV.noKs k cs
 | .loop _ _ _ _ _ vs _ _ => PV.noKs k vs
 | .mp _ vs => PV.noKs k vs
 | .ghost _ x => x.noK k
 | _ => true
theorem nbeq {a b : Nat} (h : (!(Nat.beq a b)) = true) : a ≠ b := by
 rintro rfl
 simp at h
def noE (e : List Nat) (x : PV) : Bool := match e with | [] => true | i :: l => x.noK i && noE l x
def noEA (e : List Nat) (o : AObj) : Bool := match e with | [] => true | i :: l => o.noK i && noEA l o
theorem QD {x : PV} : ∀ {e : List Nat},noE e x = true → ∀ i,e.contains i = true → x.noK i = true
 | [],_,i,h => by simp at h
 | k :: l,hh,i,h => by
   simp only [noE,Bool.and_eq_true] at hh
   simp only [List.contains_cons,Bool.or_eq_true] at h
   rcases h with h | h
   · have : i = k := by simpa using h
     subst this; exact hh.1
   · exact QD hh.2 i h
theorem Po {x : AObj} : ∀ {e : List Nat},noEA e x = true → ∀ i,e.contains i = true → x.noK i = true
 | [],_,i,h => by simp at h
 | k :: l,hh,i,h => by
   simp only [noEA,Bool.and_eq_true] at hh
   simp only [List.contains_cons,Bool.or_eq_true] at h
   rcases h with h | h
   · have : i = k := by simpa using h
     subst this; exact hh.1
   · exact Po hh.2 i h
mutual
theorem Nq {e : List Nat} : ∀ (x : PV),(∀ i,e.contains i = true → x.noK i = true) → effO e x = x
 | .d _,_ => by simp [effO]
 | .ptr j o,h => by
   simp only [effO]
   rw [if_neg]
   intro hc
   exact nbeq (h (2 * j) hc) rfl
 | .row j o,h => by
   simp only [effO]
   rw [if_neg]
   intro hc
   exact nbeq (h (2 * j + 1) hc) rfl
 | .view j o n,h => by
   simp only [effO]
   rw [if_neg]
   intro hc
   exact nbeq (h (2 * j) hc) rfl
 | .yld j,h => by
   simp only [effO]
   rw [if_neg]
   intro hc
   exact nbeq (h (2 * j) hc) rfl
 | .mapv j,h => by
   simp only [effO]
   rw [if_neg]
   intro hc
   exact nbeq (h (2 * j) hc) rfl
 | .pp _,_ => by simp [effO]
 | .fn f a b,h => by
   simp only [PV.noK,Bool.and_eq_true] at h
   simp only [effO,Iw a (fun i hi => (h i hi).1),Iw b (fun i hi => (h i hi).2)]
 | .agg cs,h => by
   simp only [PV.noK] at h
   simp only [effO,Iw cs h]
 | .dagg _,_ => by simp [effO]
 | .tup cs,h => by
   simp only [PV.noK] at h
   simp only [effO,Iw cs h]
 | .undef,_ => by simp [effO]
theorem Iw {e : List Nat} : ∀ (l : List PV),(∀ i,e.contains i = true → PV.noKs i l = true) → Ix e l = l
 | [],_ => rfl
 | x :: l,h => by
   simp only [PV.noKs,Bool.and_eq_true] at h
   simp only [Ix,Nq x (fun i hi => (h i hi).1),Iw l (fun i hi => (h i hi).2)]
end
mutual
theorem LA {e : List Nat} {lo hi : Nat} : ∀ {x : PV},x.noM lo hi = true → (effO e x).noM lo hi = true
 | .d _,_ => by simp [effO,PV.noM]
 | .ptr j o,h => by simp only [effO]; split <;> first | rfl | exact h
 | .row j o,h => by simp only [effO]; split <;> first | rfl | exact h
 | .view j o n,h => by simp only [effO]; split <;> first | rfl | exact h
 | .yld j,h => by simp only [effO]; split <;> first | rfl | exact h
 | .mapv j,h => by simp only [effO]; split <;> first | rfl | exact h
 | .pp _,_ => by simp [effO,PV.noM]
 | .fn f a b,h => by
   simp only [PV.noM,Bool.and_eq_true] at h
   simp only [effO,PV.noM,He h.1,He h.2,Bool.and_self]
 | .agg cs,h => by
   simp only [PV.noM] at h
   simp only [effO,PV.noM,He h]
 | .dagg _,_ => by simp [effO,PV.noM]
 | .tup cs,h => by
   simp only [PV.noM] at h
   simp only [effO,PV.noM,He h]
 | .undef,_ => by simp [effO,PV.noM]
theorem He {e : List Nat} {lo hi : Nat} : ∀ {l : List PV},PV.noMs lo hi l = true → PV.noMs lo hi (Ix e l) = true
 | [],_ => by simp [Ix,PV.noMs]
 | x :: l,h => by
   simp only [PV.noMs,Bool.and_eq_true] at h
   simp only [Ix,PV.noMs,LA h.1,He h.2,Bool.and_self]
end
mutual
theorem Mv (a b : List Nat) : ∀ (x : PV),effO a (effO b x) = effO b (effO a x)
 | .d _ => by simp [effO]
 | .ptr k o => by
   simp only [effO]
   by_cases h1 : a.contains (2 * k) = true <;> by_cases h2 : b.contains (2 * k) = true
   · rw [if_pos h1,if_pos h2]; rfl
   · rw [if_pos h1,if_neg h2]; simp only [effO]; rw [if_pos h1]
   · rw [if_neg h1,if_pos h2]; simp only [effO]; rw [if_pos h2]
   · rw [if_neg h1,if_neg h2]; simp only [effO]; rw [if_neg h1,if_neg h2]
 | .row k o => by
   simp only [effO]
   by_cases h1 : a.contains (2 * k + 1) = true <;> by_cases h2 : b.contains (2 * k + 1) = true
   · rw [if_pos h1,if_pos h2]; rfl
   · rw [if_pos h1,if_neg h2]; simp only [effO]; rw [if_pos h1]
   · rw [if_neg h1,if_pos h2]; simp only [effO]; rw [if_pos h2]
   · rw [if_neg h1,if_neg h2]; simp only [effO]; rw [if_neg h1,if_neg h2]
 | .view k o n => by
   simp only [effO]
   by_cases h1 : a.contains (2 * k) = true <;> by_cases h2 : b.contains (2 * k) = true
   · rw [if_pos h1,if_pos h2]; rfl
   · rw [if_pos h1,if_neg h2]; simp only [effO]; rw [if_pos h1]
   · rw [if_neg h1,if_pos h2]; simp only [effO]; rw [if_pos h2]
   · rw [if_neg h1,if_neg h2]; simp only [effO]; rw [if_neg h1,if_neg h2]
 | .yld k => by
   simp only [effO]
   by_cases h1 : a.contains (2 * k) = true <;> by_cases h2 : b.contains (2 * k) = true
   · rw [if_pos h1,if_pos h2]; rfl
   · rw [if_pos h1,if_neg h2]; simp only [effO]; rw [if_pos h1]
   · rw [if_neg h1,if_pos h2]; simp only [effO]; rw [if_pos h2]
   · rw [if_neg h1,if_neg h2]; simp only [effO]; rw [if_neg h1,if_neg h2]
 | .mapv k => by
   simp only [effO]
   by_cases h1 : a.contains (2 * k) = true <;> by_cases h2 : b.contains (2 * k) = true
   · rw [if_pos h1,if_pos h2]; rfl
   · rw [if_pos h1,if_neg h2]; simp only [effO]; rw [if_pos h1]
   · rw [if_neg h1,if_pos h2]; simp only [effO]; rw [if_pos h2]
   · rw [if_neg h1,if_neg h2]; simp only [effO]; rw [if_neg h1,if_neg h2]
 | .pp _ => by simp [effO]
 | .fn f x y => by simp only [effO,HV a b x,HV a b y]
 | .agg cs => by simp only [effO,HV a b cs]
 | .dagg _ => by simp [effO]
 | .tup cs => by simp only [effO,HV a b cs]
 | .undef => by simp [effO]
theorem HV (a b : List Nat) : ∀ (l : List PV),Ix a (Ix b l) = Ix b (Ix a l)
 | [] => rfl
 | x :: l => by simp only [Ix,Mv a b x,HV a b l]
end
theorem Nr {e : List Nat} {x : PV} (h : noE e x = true) : effO e x = x := Nq x (QD h)
theorem effA_noE {e : List Nat} {o : AObj} (h : noEA e o = true) : effA e o = o := by
 have h' := Po h
 cases o with
 | blk t cs => simp only [effA]; rw [Iw cs h']
 | loop ps a b n ks vs st pd => simp only [effA]; rw [Iw vs h']
 | mp ks vs => simp only [effA]; rw [Iw vs h']
 | ghost v x => simp only [effA]; rw [Nq x h']
 | _ => rfl
theorem effA_comm (a b : List Nat) (o : AObj) : effA a (effA b o) = effA b (effA a o) := by
 cases o with
 | blk t cs => simp only [effA]; rw [HV]
 | loop ps a b n ks vs st pd => simp only [effA]; rw [HV]
 | mp ks vs => simp only [effA]; rw [HV]
 | ghost v x => simp only [effA]; rw [Mv]
 | _ => rfl
theorem P7 {e : List Nat} {o : AObj} {lo hi : Nat} (h : o.noM lo hi = true) : (effA e o).noM lo hi = true := by
 cases o with
 | blk t cs => exact He h
 | loop ps a b n ks vs st pd => exact He h
 | mp ks vs => exact He h
 | ghost v x => exact LA h
 | _ => exact h
def apart : List (Option AObj) → List (Option AObj) → Bool
 | [],_ => true
 | _ :: _,[] => true
 | some _ :: _,some _ :: _ => false
 | _ :: a,_ :: b => apart a b
theorem apart_get : ∀ {a b : List (Option AObj)},apart a b = true → ∀ (i : Nat) (x y : AObj),a[i]? = some (some x) → b[i]? = some (some y) → False
 | [],_,_,i,x,y,h,_ => by simp at h
 | _ :: _,[],_,i,x,y,_,h => by simp at h
 | some _ :: _,some _ :: _,h,_,_,_,_,_ => by simp [apart] at h
 | none :: a,p :: b,h,0,x,y,h1,_ => by simp at h1
 | none :: a,p :: b,h,i + 1,x,y,h1,h2 => apart_get (a := a) (b := b) (by cases p <;> simpa [apart] using h) i x y (by simpa using h1) (by simpa using h2)
 | some _ :: a,none :: b,h,0,x,y,_,h2 => by simp at h2
 | some _ :: a,none :: b,h,i + 1,x,y,h1,h2 => apart_get (a := a) (b := b) (by simpa [apart] using h) i x y (by simpa using h1) (by simpa using h2)
def LK (e : List Nat) : List (Option AObj) → Bool
 | [] => true
 | some o :: l => noEA e o && LK e l
 | none :: l => LK e l
theorem updNoE_get {e : List Nat} : ∀ {l : List (Option AObj)},LK e l = true → ∀ (i : Nat) (o : AObj),l[i]? = some (some o) → noEA e o = true
 | [],_,i,o,h => by simp at h
 | some p :: l,hh,0,o,h => by simp [LK] at hh; simp at h; subst h; exact hh.1
 | some p :: l,hh,i + 1,o,h => by simp [LK] at hh; exact updNoE_get hh.2 i o (by simpa using h)
 | none :: l,hh,0,o,h => by simp at h
 | none :: l,hh,i + 1,o,h => by simp [LK] at hh; exact updNoE_get hh i o (by simpa using h)
def L3 (lo hi : Nat) : List (Option AObj) → Bool
 | [] => true
 | some o :: l => o.noM lo hi && L3 lo hi l
 | none :: l => L3 lo hi l
theorem Lw {lo hi : Nat} : ∀ {l : List (Option AObj)},L3 lo hi l = true → ∀ (i : Nat) (o : AObj),l[i]? = some (some o) → o.noM lo hi = true
 | [],_,i,o,h => by simp at h
 | some p :: l,hh,0,o,h => by simp [L3] at hh; simp at h; subst h; exact hh.1
 | some p :: l,hh,i + 1,o,h => by simp [L3] at hh; exact Lw hh.2 i o (by simpa using h)
 | none :: l,hh,0,o,h => by simp at h
 | none :: l,hh,i + 1,o,h => by simp [L3] at hh; exact Lw hh i o (by simpa using h)
def PD : Option Nat → Option Nat → Bool
 | some a,some b => !(a == b)
 | _,_ => true
def P9 (a b : Rec) : Bool := PD a.dst b.dst && apart a.upd b.upd && noE a.eff b.res && noE b.eff a.res && LK a.eff b.upd && LK b.eff a.upd
def Comm (a b : Rec) : Prop := ∀ s,a.apF (b.apF s) = b.apF (a.apF s)
theorem comm_of {a b : Rec} (h : P9 a b = true) : Comm a b := by
 simp only [P9,Bool.and_eq_true] at h
 obtain ⟨⟨⟨⟨⟨h1,h2⟩,h3⟩,h4⟩,h5⟩,h6⟩ := h
 intro s
 unfold Rec.apF
 congr 1
 · funext t
   by_cases ha : a.dst = some t
   · have hb : b.dst ≠ some t := by
       intro hb
       rw [ha,hb] at h1
       simp [PD] at h1
     simp [ha,hb,Nr h4]
   · by_cases hb : b.dst = some t
     · simp [ha,hb,Nr h3]
     · simp only [ha,hb,if_false]
       cases s.e t with
       | none => rfl
       | some x => simp [Mv]
 · apply List.ext_getElem?
   intro i
   simp only [overlay_get,List.getElem?_map]
   rcases hA : a.upd[i]? with _ | (_ | x) <;> rcases hB : b.upd[i]? with _ | (_ | y)
   all_goals first
    | (simp only []; cases s.σ[i]? <;> simp [effA_comm]; done)
    | (exact absurd (apart_get h2 i _ _ hA hB) (fun h => h))
    | (simp only []; cases s.σ[i]? <;> simp [effA_noE (updNoE_get h6 i _ hA)]; done)
    | (simp only []; cases s.σ[i]? <;> simp [effA_noE (updNoE_get h5 i _ hB)]; done)
structure Pre (b : Rec) (s : SF) : Prop where
 env : ∀ t x,b.env.lookup t = some x → s.e t = some x
 loc : ∀ (i : Nat) (o : AObj),b.loc[i]? = some o → o.live = true → s.σ[i]? = some o
 free : ∀ t x,s.e t = some x → x.noM b.lo b.hi = true
 freeA : ∀ (i : Nat) (o : AObj),s.σ[i]? = some o → o.noM b.lo b.hi = true
 len : b.hi ≤ s.σ.length
def RG (d : Option Nat) (e : List Nat) : Env → Bool
 | [] => true
 | (t,x) :: l => !(d == some t) && noE e x && RG d e l
theorem Ob {d : Option Nat} {e : List Nat} : ∀ {l : Env},RG d e l = true → ∀ t x,l.lookup t = some x → d ≠ some t ∧ noE e x = true
 | [],_,t,x,h => by simp at h
 | (k,y) :: l,hh,t,x,h => by
   simp only [RG,Bool.and_eq_true] at hh
   simp only [List.lookup] at h
   split at h
   · rename_i e1
     have e2 : t = k := by simpa using e1
     subst e2
     simp at h; subst h
     exact ⟨by simpa using hh.1.1,hh.1.2⟩
   · exact Ob hh.2 t x h
def N4 (e : List Nat) : List (Option AObj) → List AObj → Bool
 | _,[] => true
 | [],o :: l => noEA e o && N4 e [] l
 | u :: us,o :: l => (!o.live || (u.isNone && noEA e o)) && N4 e us l
theorem Mo {e : List Nat} : ∀ {us : List (Option AObj)} {l : List AObj},N4 e us l = true → ∀ (i : Nat) (o : AObj),l[i]? = some o → o.live = true → (∀ y,us[i]? ≠ some (some y)) ∧ noEA e o = true
 | _,[],_,i,o,h,_ => by simp at h
 | [],p :: l,hh,0,o,h,_ => by simp only [N4,Bool.and_eq_true] at hh; simp at h; subst h; exact ⟨by simp,hh.1⟩
 | [],p :: l,hh,i + 1,o,h,hl => by
   simp only [N4,Bool.and_eq_true] at hh
   have := Mo hh.2 i o (by simpa using h) hl
   exact ⟨by simp,this.2⟩
 | u :: us,p :: l,hh,0,o,h,hl => by
   simp only [N4,Bool.and_eq_true] at hh
   simp at h; subst h
   simp [hl] at hh
   exact ⟨by simp [hh.1.1],hh.1.2⟩
 | u :: us,p :: l,hh,i + 1,o,h,hl => by
   simp only [N4,Bool.and_eq_true] at hh
   have := Mo hh.2 i o (by simpa using h) hl
   exact ⟨by simpa using this.1,this.2⟩
def LW (a b : Rec) : Bool := RG a.dst a.eff b.env && N4 a.eff a.upd b.loc && a.res.noM b.lo b.hi && L3 b.lo b.hi a.upd
theorem Pre.pres {a b : Rec} {s : SF} (hp : Pre b s) (h : LW a b = true) : Pre b (a.apF s) := by
 simp only [LW,Bool.and_eq_true] at h
 obtain ⟨⟨⟨h1,h2⟩,h3⟩,h4⟩ := h
 refine ⟨fun t x hx => ?_,fun i o hi hl => ?_,fun t x hx => ?_,fun i o hi => ?_,?_⟩
 · obtain ⟨e1,e2⟩ := Ob h1 t x hx
   simp only [Rec.apF,e1,if_false,hp.env t x hx,Option.map_some,Nr e2]
 · obtain ⟨e1,e2⟩ := Mo h2 i o hi hl
   have := hp.loc i o hi hl
   simp only [Rec.apF,overlay_get,List.getElem?_map,this,Option.map_some]
   rw [effA_noE e2]
 · simp only [Rec.apF] at hx
   split at hx
   · simp at hx; subst hx; exact h3
   · obtain ⟨y,hy,rfl⟩ := Option.map_eq_some_iff.1 hx
     exact LA (hp.free t y hy)
 · simp only [Rec.apF,overlay_get,List.getElem?_map] at hi
   split at hi
   · rename_i y hy
     cases hq : s.σ[i]? with
     | none => rw [hq] at hi; cases hi
     | some z => rw [hq] at hi; simp at hi; subst hi; exact Lw h4 i _ hy
   · obtain ⟨y,hy,rfl⟩ := Option.map_eq_some_iff.1 hi
     exact P7 (hp.freeA i y hy)
 · simp only [Rec.apF,Io,List.length_map]; exact hp.len
end Go.Ab
