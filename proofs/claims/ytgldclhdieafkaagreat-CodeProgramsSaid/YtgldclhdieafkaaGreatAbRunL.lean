/- Operations one behind the other. -/
import Derived.Test.YtgldclhdieafkaaGreatAbView
namespace Go.Ab
open Go.RowKit
abbrev Env := List (Nat × PV)
def Env.eval (env : Env) : Operand → Option PV
 | .tmp t => env.lookup t
 | .const v => Kb v
 | .func f => some (.fn (.func f) [] [])
 | .global _ => none
def J9 (ev : Operand → Option PV) : List Operand → Option (List PV)
 | [] => some []
 | x :: l => match ev x,J9 ev l with | some y,some r => some (y :: r) | _,_ => none
def KV (ev : Operand → Option PV) : List (Nat × Operand) → Option (List (Nat × PV))
 | [] => some []
 | (i,x) :: l => match ev x,KV ev l with | some y,some r => some ((i,y) :: r) | _,_ => none
def OM (ev : Operand → Option PV) : Option Operand → Option (Option PV)
 | none => some none
 | some x => (ev x).map some
def TB (P : Program) (op : BinOp) (T : TypeId) (x y : PV) (σ : List AObj) (orc : Orc) : Option Out :=
 match (match aBin op x y with | some r => some r | none => aEqX P op T x y) with
 | some r =>
   match orc,r.1 with
   | .val z,.d y => some ⟨.d z,σ,none,(y = z) :: r.2⟩
   | .no,_ => some ⟨r.1,σ,none,r.2⟩
   | _,_ => none
 | none => none
def aop (P : Program) (ev : Operand → Option PV) (o : Oper) (σ : List AObj) (orc : Orc) : Option Out :=
 match o.op with
 | .move x | .assign x =>
   match orc with
   | .val z => match ev x with
     | some (.d y) => some ⟨.d z,σ,none,[y = z]⟩
     | _ => none
   | _ => (ev x).map fun y => ⟨y,σ,none,[]⟩
 | .pick c a b =>
   match ev c with
   | some (.d (.bool true)) => (ev a).map fun y => ⟨y,σ,none,[]⟩
   | some (.d (.bool false)) => (ev b).map fun y => ⟨y,σ,none,[]⟩
   | _ => none
 | .alloc T => Rl P T σ
 | .box T x => (ev x).bind fun y => aBox T y σ
 | .build T parts => (KV ev parts.toList).bind fun ps => O0 P T ps σ
 | .buildSlice T n parts => (KV ev parts.toList).bind fun ps => KW P T n ps σ
 | .load T a => (ev a).bind fun y => OX P T y σ orc
 | .store T a x => (ev a).bind fun y => (ev x).bind fun z => Rd P T y z σ
 | .nilCheck x => (ev x).bind fun y => MB y σ
 | .binOp op T x y _ => (ev x).bind fun a => (ev y).bind fun b => TB P op T a b σ orc
 | .unOp op _ x => (ev x).bind fun y => (aUn op y).map fun z => ⟨z,σ,none,[]⟩
 | .convert s d x => (ev x).bind fun y => NA P s d y σ orc
 | .makeFunc f a b => (J9 ev a.toList).bind fun xs => (J9 ev b.toList).map fun ys => ⟨.fn f xs ys,σ,none,[]⟩
 | .makeSlice T l c => (ev l).bind fun x => (ev c).bind fun y => LD P T x y σ
 | .slice T x lo hi mx => (ev x).bind fun y => (OM ev lo).bind fun l => (OM ev hi).bind fun h => (OM ev mx).bind fun m => OV P T y l h m σ orc
 | .fieldAddr S x f => (ev x).bind fun y => LF P S y f σ
 | .field T x f => (ev x).bind fun y => Ri P T y f σ
 | .indexAddr T x i => (ev x).bind fun y => (ev i).bind fun z => LE P T y z σ orc
 | .index T x i => (ev x).bind fun y => (ev i).bind fun z => Rg P T y z σ orc
 | .extract x k => (ev x).bind fun y => Ny y k σ
 | .call { callee := .builtin .len,args,argTypes } =>
   match args.toList,argTypes.toList with
   | [x],[t] => (ev x).bind fun y => aLen P t y σ
   | _,_ => none
 | .call { callee := .builtin .append,args,argTypes } =>
   match args.toList,argTypes.toList with
   | [s,x],[t,u] => (ev s).bind fun y => (ev x).bind fun z => aAppendX P t u y z σ orc
   | _,_ => none
 | .call { callee := .builtin .max,args,.. } =>
   match args.toList with
   | [x,y] => (ev x).bind fun a => (ev y).bind fun b => aMax true a b σ
   | _ => none
 | .call { callee := .builtin .min,args,.. } =>
   match args.toList with
   | [x,y] => (ev x).bind fun a => (ev y).bind fun b => aMax false a b σ
   | _ => none
 | .makeMap _ r => (OM ev r).bind fun y => Nu y σ
 | .mapUpdate T m k v => (ev m).bind fun a => (ev k).bind fun b => (ev v).bind fun c => L2 P T a b c σ orc
 | .insert T m k v => (ev m).bind fun a => (ev k).bind fun b => (ev v).bind fun c => L2 P T a b c σ orc
 | .lookup T x ix ok => (ev x).bind fun a => (ev ix).bind fun b => Nw P T a b ok σ orc
 | _ => none
section
variable {P : Program} {E : Entry} {w : World} {hz : Hp} {φ : Phi} {σ : List AObj} {ev : Operand → Option PV} {ρ : Operand → Value}
theorem If (hev : ∀ x y,ev x = some y → RelV hz φ (ρ x) y) : ∀ {l : List Operand} {ps : List PV},J9 ev l = some ps → ps.length = l.length ∧ ∀ (j : Nat) (y : PV),ps[j]? = some y → ∃ x,l[j]? = some x ∧ RelV hz φ (ρ x) y
 | [],ps,h => by simp [J9] at h; subst h; simp
 | x :: l,ps,h => by
   simp only [J9] at h
   split at h
   · rename_i y r hy hr
     simp at h; subst h
     obtain ⟨h1,h2⟩ := If hev hr
     refine ⟨by simp [h1],fun j z hj => ?_⟩
     match j,hj with
     | 0,hj => simp at hj; subst hj; exact ⟨x,rfl,hev _ _ hy⟩
     | j + 1,hj => simpa using h2 j z (by simpa using hj)
   · cases h
theorem evParts_rel (hev : ∀ x y,ev x = some y → RelV hz φ (ρ x) y) : ∀ {l : List (Nat × Operand)} {ps : List (Nat × PV)},KV ev l = some ps →
    ps.length = l.length ∧ ∀ (j : Nat) (p : Nat × PV),ps[j]? = some p → ∃ x,l[j]? = some (p.1,x) ∧ RelV hz φ (ρ x) p.2
 | [],ps,h => by simp [KV] at h; subst h; simp
 | (i,x) :: l,ps,h => by
   simp only [KV] at h
   split at h
   · rename_i y r hy hr
     simp at h; subst h
     obtain ⟨h1,h2⟩ := evParts_rel hev hr
     refine ⟨by simp [h1],fun j p hj => ?_⟩
     match j,hj with
     | 0,hj => simp at hj; subst hj; exact ⟨x,rfl,hev _ _ hy⟩
     | j + 1,hj => simpa using h2 j p (by simpa using hj)
   · cases h
theorem evOpt_rel (hev : ∀ x y,ev x = some y → RelV hz φ (ρ x) y) {x : Option Operand} {y : Option PV} (h : OM ev x = some y) : Gx hz φ (x.map ρ) y := by
 cases x with
 | none => simp [OM] at h; subst h; exact ⟨by simp,by simp⟩
 | some a =>
   simp [OM] at h
   obtain ⟨b,hb,rfl⟩ := h
   exact ⟨fun v hv => ⟨b,rfl,by simp at hv; subst hv; exact hev _ _ hb⟩,by simp⟩
theorem NZ (hev : ∀ x y,ev x = some y → RelV hz φ (ρ x) y) {parts : Array (Nat × Operand)} {ps : List (Nat × PV)} (h : KV ev parts.toList = some ps) :
    (parts.map fun (x : Nat × Operand) => (x.1,ρ x.2)).toList.length = ps.length ∧ ∀ (j : Nat) (p : Nat × PV),ps[j]? = some p → ∃ v,(parts.map fun (x : Nat × Operand) => (x.1,ρ x.2)).toList[j]? = some (p.1,v) ∧ RelV hz φ v p.2 := by
 obtain ⟨h1,h2⟩ := evParts_rel hev h
 refine ⟨by simp [h1],fun j p hj => ?_⟩
 obtain ⟨x,hx,hr⟩ := h2 j p hj
 have hx' : parts[j]? = some (p.1,x) := by simpa using hx
 exact ⟨ρ x,by simp [hx'],hr⟩
theorem Nc {o : Oper} {x : Operand} {y : PV} {out : Out} (hM : Mem E hz φ σ w) (he : o.op = .nilCheck x) (hr : RelV hz φ (ρ x) y) (h : MB y σ = some out) : Good P E (execOp ρ o) w hz φ out := by
 obtain ⟨v,hv⟩ : ∃ v,ρ x = v := ⟨_,rfl⟩
 rw [hv] at hr
 unfold MB at h
 split at h
 · simp only [Option.some.injEq] at h; subst h
   refine good_pure hM (v := v) ?_ hr
   unfold execOp
   rw [he]
   simp only [hv]
   cases hr
   rfl
 · simp only [Option.some.injEq] at h; subst h
   refine good_pure hM (v := v) ?_ hr
   unfold execOp
   rw [he]
   simp only [hv]
   cases hr
   rfl
 · simp only [Option.some.injEq] at h; subst h
   refine good_pure hM (v := v) ?_ hr
   unfold execOp
   rw [he]
   simp only [hv]
   cases hr
   rfl
 · cases h
theorem Jf {o : Oper} {b : Builtin} {args : Array Operand} {ts : Array TypeId} (ho : o.op = .call { callee := .builtin b,args := args,argTypes := ts }) :
    execOp ρ o = builtin b ts o.type (args.map fun | .const _ => true | _ => false) (args.map ρ) := by
 unfold execOp
 rw [ho]
 rfl
theorem Ll {o : Oper} {orc : Orc} {out : Out} (hM : Mem E hz φ σ w) (hev : ∀ x y,ev x = some y → RelV hz φ (ρ x) y) (h : aop P ev o σ orc = some out) (ho : ∀ p ∈ out.obl,p) : Good P E (execOp ρ o) w hz φ out := by
 unfold aop at h
 split at h
 case h_1 x he =>
  split at h
  · split at h
    · rename_i z _ y hy
      simp only [Option.some.injEq] at h; subst h
      have e : y = z := ho _ (by simp)
      unfold execOp; rw [he]; exact good_pure hM rfl (e ▸ hev _ _ hy)
    · cases h
  · obtain ⟨y,hy,rfl⟩ := Option.map_eq_some_iff.1 h
    unfold execOp; rw [he]; exact good_pure hM rfl (hev _ _ hy)
 case h_2 x he =>
  split at h
  · split at h
    · rename_i z _ y hy
      simp only [Option.some.injEq] at h; subst h
      have e : y = z := ho _ (by simp)
      unfold execOp; rw [he]; exact good_pure hM rfl (e ▸ hev _ _ hy)
    · cases h
  · obtain ⟨y,hy,rfl⟩ := Option.map_eq_some_iff.1 h
    unfold execOp; rw [he]; exact good_pure hM rfl (hev _ _ hy)
 case h_3 c a b he =>
  unfold execOp; rw [he]
  split at h
  · rename_i hc
    obtain ⟨y,hy,rfl⟩ := Option.map_eq_some_iff.1 h
    have := (hev _ _ hc).inv_bool
    refine good_pure hM (v := ρ a) ?_ (hev _ _ hy)
    simp only [this]; rfl
  · rename_i hc
    obtain ⟨y,hy,rfl⟩ := Option.map_eq_some_iff.1 h
    have := (hev _ _ hc).inv_bool
    refine good_pure hM (v := ρ b) ?_ (hev _ _ hy)
    simp only [this]; rfl
  · cases h
 case h_4 T he => unfold execOp; rw [he]; exact O3 hM h
 case h_5 T x he =>
  unfold execOp; rw [he]; obtain ⟨y,hy,h⟩ := Option.bind_eq_some_iff.1 h
  exact aBox_good hM (hev _ _ hy) h
 case h_6 T parts he =>
  unfold execOp; rw [he]; obtain ⟨ps,hp,h⟩ := Option.bind_eq_some_iff.1 h
  obtain ⟨h1,h2⟩ := NZ hev hp
  exact Oo hM h1 h2 h
 case h_7 T n parts he =>
  unfold execOp; rw [he]; obtain ⟨ps,hp,h⟩ := Option.bind_eq_some_iff.1 h
  obtain ⟨h1,h2⟩ := NZ hev hp
  exact LY hM h1 h2 h
 case h_8 T a he =>
  unfold execOp; rw [he]; obtain ⟨y,hy,h⟩ := Option.bind_eq_some_iff.1 h
  exact aLoad_good hM (hev _ _ hy) h ho
 case h_9 T a x he =>
  unfold execOp; rw [he]; obtain ⟨y,hy,h⟩ := Option.bind_eq_some_iff.1 h
  obtain ⟨z,hz',h⟩ := Option.bind_eq_some_iff.1 h
  exact OT hM (hev _ _ hy) (hev _ _ hz') h ho
 case h_10 x he =>
  obtain ⟨y,hy,h⟩ := Option.bind_eq_some_iff.1 h
  exact Nc hM he (hev _ _ hy) h
 case h_11 op T x y yt he =>
  unfold execOp; rw [he]; obtain ⟨a,ha,h⟩ := Option.bind_eq_some_iff.1 h
  obtain ⟨b,hb,h⟩ := Option.bind_eq_some_iff.1 h
  unfold TB at h
  split at h
  · rename_i r hr
    have hrun : (∀ p ∈ r.2,p) → ∃ z,(do eqGuard op T x y (ρ x) (ρ y); binOp op T (ρ x) (ρ y) : Sem Value).run P w = .ok z w ∧ RelV hz φ z r.1 := by
     intro hob
     split at hr
     · rename_i r' hr'
       simp at hr; subst hr
       exact aBin_run T x y (hev _ _ ha) (hev _ _ hb) hr' hob
     · exact aEqX_run x y (hev _ _ ha) (hev _ _ hb) hr hob
    split at h
    · rename_i z y' hres _ _
      simp only [Option.some.injEq] at h; subst h
      obtain ⟨v,h1,h2⟩ := hrun (fun p hp => ho p (List.mem_cons_of_mem _ hp))
      have e : y' = z := ho _ (List.mem_cons_self ..)
      rw [hres,e] at h2
      exact good_v hM h1 h2
    · simp only [Option.some.injEq] at h; subst h
      obtain ⟨v,h1,h2⟩ := hrun ho
      exact good_v hM h1 h2
    · cases h
  · cases h
 case h_12 op t x he =>
  unfold execOp; rw [he]; obtain ⟨y,hy,h⟩ := Option.bind_eq_some_iff.1 h
  obtain ⟨z,hz',rfl⟩ := Option.map_eq_some_iff.1 h
  obtain ⟨v,h1,h2⟩ := aUn_run (P := P) (w := w) (hev _ _ hy) hz'
  exact good_v hM h1 h2
 case h_13 s d x he =>
  unfold execOp; rw [he]; obtain ⟨y,hy,h⟩ := Option.bind_eq_some_iff.1 h
  exact Nz hM (hev _ _ hy) h ho
 case h_14 f a b he =>
  unfold execOp; rw [he]; obtain ⟨xs,hx,h⟩ := Option.bind_eq_some_iff.1 h
  obtain ⟨ys,hy,rfl⟩ := Option.map_eq_some_iff.1 h
  obtain ⟨a1,a2⟩ := If hev hx
  obtain ⟨b1,b2⟩ := If hev hy
  refine good_v hM (v := .func f (a.map ρ) (b.map ρ)) rfl (.fn f _ _ _ _ (by simp [a1]) (by simp [b1]) ?_ ?_)
  · intro j y hj
    obtain ⟨x,hx',hr⟩ := a2 j y hj
    have hx'' : a[j]? = some x := by simpa using hx'
    simpa [Array.getD_eq_getD_getElem?,hx''] using hr
  · intro j y hj
    obtain ⟨x,hx',hr⟩ := b2 j y hj
    have hx'' : b[j]? = some x := by simpa using hx'
    simpa [Array.getD_eq_getD_getElem?,hx''] using hr
 case h_15 T l c he =>
  unfold execOp; rw [he]; obtain ⟨y,hy,h⟩ := Option.bind_eq_some_iff.1 h
  obtain ⟨z,hz',h⟩ := Option.bind_eq_some_iff.1 h
  exact MC hM (hev _ _ hy) (hev _ _ hz') h ho
 case h_16 T x lo hi mx he =>
  unfold execOp; rw [he]; obtain ⟨y,hy,h⟩ := Option.bind_eq_some_iff.1 h
  obtain ⟨l,hl,h⟩ := Option.bind_eq_some_iff.1 h
  obtain ⟨h',hh,h⟩ := Option.bind_eq_some_iff.1 h
  obtain ⟨m,hm,h⟩ := Option.bind_eq_some_iff.1 h
  exact Oi hM (hev _ _ hy) (evOpt_rel hev hl) (evOpt_rel hev hh) (evOpt_rel hev hm) h ho
 case h_17 S x f he =>
  unfold execOp; rw [he]; obtain ⟨y,hy,h⟩ := Option.bind_eq_some_iff.1 h
  exact ME hM (hev _ _ hy) h
 case h_18 T x f he =>
  unfold execOp; rw [he]; obtain ⟨y,hy,h⟩ := Option.bind_eq_some_iff.1 h
  exact aField_good hM (hev _ _ hy) h
 case h_19 T x i he =>
  unfold execOp; rw [he]; obtain ⟨y,hy,h⟩ := Option.bind_eq_some_iff.1 h
  obtain ⟨z,hz',h⟩ := Option.bind_eq_some_iff.1 h
  exact MD hM (hev _ _ hy) (hev _ _ hz') h ho
 case h_20 T x i he =>
  unfold execOp; rw [he]; obtain ⟨y,hy,h⟩ := Option.bind_eq_some_iff.1 h
  obtain ⟨z,hz',h⟩ := Option.bind_eq_some_iff.1 h
  exact OZ hM (hev _ _ hy) (hev _ _ hz') h ho
 case h_21 x k he =>
  unfold execOp; rw [he]; obtain ⟨y,hy,h⟩ := Option.bind_eq_some_iff.1 h
  exact Nx hM (hev _ _ hy) h
 case h_22 args ts he =>
  rw [Jf he]
  split at h
  · rename_i x t ha ht
    obtain ⟨y,hy,h⟩ := Option.bind_eq_some_iff.1 h
    have ha' : args = #[x] := by apply Array.ext'; simpa using ha
    have ht' : ts = #[t] := by apply Array.ext'; simpa using ht
    subst ha' ht'
    have e : (#[x] : Array Operand).map ρ = #[ρ x] := by simp
    rw [e]
    exact aLen_good hM (hev _ _ hy) h
  · cases h
 case h_23 args ts he =>
  rw [Jf he]
  split at h
  · rename_i s x t u ha ht
    obtain ⟨y,hy,h⟩ := Option.bind_eq_some_iff.1 h
    obtain ⟨z,hz',h⟩ := Option.bind_eq_some_iff.1 h
    have ha' : args = #[s,x] := by apply Array.ext'; simpa using ha
    have ht' : ts = #[t,u] := by apply Array.ext'; simpa using ht
    subst ha' ht'
    have e : (#[s,x] : Array Operand).map ρ = #[ρ s,ρ x] := by simp
    rw [e]
    exact NB hM (hev _ _ hy) (hev _ _ hz') h ho
  · cases h
 case h_24 args ts he =>
  rw [Jf he]
  split at h
  · rename_i x y ha
    obtain ⟨a,ha',h⟩ := Option.bind_eq_some_iff.1 h
    obtain ⟨b,hb',h⟩ := Option.bind_eq_some_iff.1 h
    have hq : args = #[x,y] := by apply Array.ext'; simpa using ha
    subst hq
    have e : (#[x,y] : Array Operand).map ρ = #[ρ x,ρ y] := by simp
    rw [e]
    exact aMax_good (mx := true) (ts := ts) (ty := o.type) hM (hev _ _ ha') (hev _ _ hb') h
  · cases h
 case h_25 args ts he =>
  rw [Jf he]
  split at h
  · rename_i x y ha
    obtain ⟨a,ha',h⟩ := Option.bind_eq_some_iff.1 h
    obtain ⟨b,hb',h⟩ := Option.bind_eq_some_iff.1 h
    have hq : args = #[x,y] := by apply Array.ext'; simpa using ha
    subst hq
    have e : (#[x,y] : Array Operand).map ρ = #[ρ x,ρ y] := by simp
    rw [e]
    exact aMax_good (mx := false) (ts := ts) (ty := o.type) hM (hev _ _ ha') (hev _ _ hb') h
  · cases h
 case h_26 T r he =>
  unfold execOp; rw [he]; obtain ⟨y,hy,h⟩ := Option.bind_eq_some_iff.1 h
  exact Nt hM (evOpt_rel hev hy) h
 case h_27 T m k v he =>
  unfold execOp; rw [he]; obtain ⟨a,ha,h⟩ := Option.bind_eq_some_iff.1 h
  obtain ⟨b,hb,h⟩ := Option.bind_eq_some_iff.1 h
  obtain ⟨c,hc,h⟩ := Option.bind_eq_some_iff.1 h
  exact Lm hM (hev _ _ ha) (hev _ _ hb) (hev _ _ hc) h ho
 case h_28 T m k v he =>
  unfold execOp; rw [he]; obtain ⟨a,ha,h⟩ := Option.bind_eq_some_iff.1 h
  obtain ⟨b,hb,h⟩ := Option.bind_eq_some_iff.1 h
  obtain ⟨c,hc,h⟩ := Option.bind_eq_some_iff.1 h
  exact Lm hM (hev _ _ ha) (hev _ _ hb) (hev _ _ hc) h ho
 case h_29 T x ix ok he =>
  unfold execOp; rw [he]; obtain ⟨a,ha,h⟩ := Option.bind_eq_some_iff.1 h
  obtain ⟨b,hb,h⟩ := Option.bind_eq_some_iff.1 h
  exact Nv hM (hev _ _ ha) (hev _ _ hb) h ho
 case h_30 => cases h
end
end Go.Ab
