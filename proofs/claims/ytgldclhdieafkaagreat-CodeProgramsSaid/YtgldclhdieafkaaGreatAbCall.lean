/- Calls with data; operations one behind the other. -/
import Derived.Test.YtgldclhdieafkaaGreatAbRunL
namespace Go.Ab
open Go.RowKit
mutual
def PV.isData : PV → Bool
 | .d _ => true
 | .ptr _ _ => false
 | .row _ _ => false
 | .view _ _ _ => false
 | .yld _ => false
 | .mapv _ => false
 | .pp _ => true
 | .fn _ a b => PV.datas a && PV.datas b
 | .agg cs => PV.datas cs
 | .dagg _ => true
 | .tup cs => PV.datas cs
 | .undef => true
def PV.datas : List PV → Bool
 | [] => true
 | x :: l => PV.isData x && PV.datas l
end
theorem IX : ∀ {l : List PV} {j : Nat} {x : PV},PV.datas l = true → l[j]? = some x → x.isData = true
 | [],j,x,_,h => by simp at h
 | y :: l,0,x,hb,h => by simp [PV.datas] at hb h; subst h; exact hb.1
 | y :: l,j + 1,x,hb,h => by simp [PV.datas] at hb h; exact IX hb.2 h
theorem RelV.data {hz hz' : Hp} {φ φ' : Phi} (hl : Hp.le hz hz') {v : Value} {x : PV} (h : RelV hz φ v x) (hd : x.isData = true) : RelV hz' φ' v x := by
 induction h with
 | d h => exact .d (h.mono hl)
 | ptr i off g c h => simp [PV.isData] at hd
 | row i n g cap h hn hm => simp [PV.isData] at hd
 | rowNil i a h => simp [PV.isData] at hd
 | view => simp [PV.isData] at hd
 | viewNil => simp [PV.isData] at hd
 | yld => simp [PV.isData] at hd
 | mapv => simp [PV.isData] at hd
 | pp g off cs arr e fr f hg hx hr => exact .pp g off cs arr e fr f (hl _ _ hg) hx (fun j x hj => (hr j x hj).mono hl)
 | fn f a b c d h1 h2 _ _ i1 i2 =>
   simp [PV.isData] at hd
   exact .fn f a b c d h1 h2 (fun j x hj => i1 j x hj (IX hd.1 hj)) (fun j x hj => i2 j x hj (IX hd.2 hj))
 | agg cs cs' h _ ih => exact .agg cs cs' h (fun j x hj => ih j x hj (IX (by simpa [PV.isData] using hd) hj))
 | dagg cs cs' h r => exact .dagg cs cs' h (fun j x hj => (r j x hj).mono hl)
 | tup cs cs' h _ ih => exact .tup cs cs' h (fun j x hj => ih j x hj (IX (by simpa [PV.isData] using hd) hj))
 | undef v => exact .undef v
def PV.loose : PV → PV
 | .d x => .d x.loose
 | .agg cs => .agg (go cs)
 | x => x
 where go : List PV → List PV
 | [] => []
 | .d x :: l => .d x.loose :: go l
 | x :: l => x :: go l
def PV.looses : List PV → List PV
 | [] => []
 | x :: l => x.loose :: PV.looses l
theorem J3 : ∀ {l : List PV} {j : Nat} {y : PV},(PV.looses l)[j]? = some y → ∃ x,l[j]? = some x ∧ y = x.loose
 | [],j,y,h => by simp [PV.looses] at h
 | x :: l,0,y,h => by simp [PV.looses] at h; exact ⟨x,rfl,h.symm⟩
 | x :: l,j + 1,y,h => by simp [PV.looses] at h; simpa using J3 h
theorem IR : ∀ (l : List PV),(PV.looses l).length = l.length
 | [] => rfl
 | x :: l => by simp [PV.looses,IR l]
theorem loosego_get {hz : Hp} {φ : Phi} : ∀ {cs : List PV} {j : Nat} {y : PV} {v : Value},(PV.loose.go cs)[j]? = some y → (∀ x,cs[j]? = some x → RelV hz φ v x) → RelV hz φ v y
 | [],j,y,v,h,_ => by simp [PV.loose.go] at h
 | x :: l,0,y,v,h,hr => by
   have h0 := hr x rfl
   cases x with
   | d z => simp [PV.loose.go] at h; subst h; cases h0 with | d hd => exact .d hd.loose
   | _ => simp [PV.loose.go] at h; subst h; exact h0
 | x :: l,j + 1,y,v,h,hr => by
   have h' : (PV.loose.go l)[j]? = some y := by cases x <;> simpa [PV.loose.go] using h
   exact loosego_get h' (fun z hz => hr z (by simpa using hz))
theorem KO : ∀ (l : List PV),(PV.loose.go l).length = l.length
 | [] => rfl
 | x :: l => by cases x <;> simp [PV.loose.go,KO l]
theorem RelV.loose {hz : Hp} {φ : Phi} {v : Value} {x : PV} (h : RelV hz φ v x) : RelV hz φ v x.loose := by
 cases h with
 | d h => exact .d h.loose
 | agg cs cs' hs hr => exact .agg cs _ (by rw [KO]; exact hs) (fun j y hj => loosego_get hj (fun z hz => hr j z hz))
 | ptr i off g c h => exact .ptr i off g c h
 | row i n g cap h hn hm => exact .row i n g cap h hn hm
 | rowNil i a h => exact .rowNil i a h
 | view i o n g c cap h h1 h2 => exact .view i o n g c cap h h1 h2
 | viewNil i o a h => exact .viewNil i o a h
 | yld i l c h => exact .yld i l c h
 | mapv i g c h => exact .mapv i g c h
 | pp g off cs arr e fr f hg hx hr => exact .pp g off cs arr e fr f hg hx hr
 | fn f a b c d h1 h2 r1 r2 => exact .fn f a b c d h1 h2 r1 r2
 | dagg cs cs' h r => exact .dagg cs cs' h r
 | tup cs cs' h r => exact .tup cs cs' h r
 | undef v => exact .undef v
def PY : Phi := fun _ => none
def RW (P : Program) (f : FuncId) (args : List PV) (res : PV) : Prop :=
 ∀ (w : World) (hz : Hp) (vals : Array Value),(∀ g o,hz g = some o → w.heap[g]? = some o) → vals.size = args.length → (∀ j x,args[j]? = some x → RelV hz PY (vals.getD j undef) x) →
   Calls P f vals w fun e w' => ∃ v hz',e = .returned v ∧ RelV hz' PY v res ∧ (∀ g o,hz' g = some o → w'.heap[g]? = some o) ∧ Hp.le hz hz' ∧ (∀ g o,hz' g = some o → hz g = some o ∨ w.heap.size ≤ g) ∧ Below w.heap.size w w'
def Ks (P : Program) (f : FuncId) : Bool :=
 match P.funcs[f]? with
 | some fn => !(fn.name == "runtime.NumGoroutine") && fn.body.isSome
 | none => false
theorem I9 {P : Program} {f : FuncId} (h : Ks P f = true) (args : Array Value) (w : World) : (callFunc f args).run P w = .ok (.enter f args) w := by
 unfold Ks at h
 split at h
 · rename_i fn hf
   simp at h
   have hn : (fn.name == "runtime.NumGoroutine") = false := by simpa using h.1
   have hb : fn.body.isNone = false := by cases hq : fn.body <;> simp_all
   unfold callFunc
   rw [Sem.run_bind]
   show ((program.run P w).andThen _) = _
   simp only [program,Sem.run,Result.andThen_ok,hf,hn,hb,Bool.false_eq_true,if_false,Sem.run_pure]
 · cases h
section
variable {E : Entry} {hz hz' : Hp} {φ : Phi} {σ : List AObj} {w w' : World}
theorem Mem.call (hM : Mem E hz φ σ w) (hk : ∀ g o,hz' g = some o → w'.heap[g]? = some o) (hle : Hp.le hz hz') (hnew : ∀ g o,hz' g = some o → hz g = some o ∨ w.heap.size ≤ g) (hb : Below w.heap.size w w') : Mem E hz' φ σ w' :=
 { knows := hk
   objs := fun i o hi => (hM.objs i o hi).tr hle (Phi.le_refl _) (fun g c _ _ hn hz0 => by
    have hlt : g < w.heap.size := by
     rcases Nat.lt_or_ge g w.heap.size with h | h
     · exact h
     · exact absurd (Array.getElem?_eq_none h) hn
    refine ⟨hb.block g hlt,?_⟩
    cases hq : hz' g with
    | none => rfl
    | some o => rcases hnew g o hq with h | h
                · rw [hz0] at h; cases h
                · omega)
   inj := hM.inj,new := hM.new,dom := hM.dom,caps := hM.caps
   os := hb.os.trans hM.os,tape := hb.tape.trans hM.tape,output := hb.output.trans hM.output
   size := Nat.le_trans hM.size hb.size
   kept := fun k a b => (hb.block k (Nat.lt_of_lt_of_le a hM.size)).trans (hM.kept k a b)
   hle := Hp.le_trans hM.hle hle
   hnew := fun g o hg => by
    rcases hnew g o hg with h | h
    · exact hM.hnew g o h
    · exact .inr (.inl (Nat.le_trans hM.size h)) }
end
structure PC where
 ρ : List Nat
 n0 : Nat
 res : PV
 σ' : List AObj
 e : List Nat := []
 loose : Bool := true
structure Tip where
 settle : List Nat := []
 pc : Option PC := none
 orc : Orc := .no
 res : Option PV := none
 form : Option (Nat × List D) := none
 obj : Nat := 0
def Pf (out : Out) (n' : Nat) (cs' : List D) (j : Nat) : Option Out :=
 match out.res with
 | .row i n => match out.σ[i]? with
   | some (.row e sz cs) => some ⟨.row i n',out.σ.set i (.row e sz cs'),out.eff,(n = n') :: (cs = cs') :: out.obl⟩
   | _ => none
 | .d (.list t n xs) => some ⟨.d (.list t n' cs'),out.σ,out.eff,(n = n') :: (xs = cs') :: out.obl⟩
 | .undef => match out.σ[j]? with
   | some (.row e sz cs) => some ⟨.undef,out.σ.set j (.row e sz cs'),out.eff,(cs = cs') :: out.obl⟩
   | some (.dblk t cs) => some ⟨.undef,out.σ.set j (.dblk t cs'),out.eff,(cs = cs') :: out.obl⟩
   | _ => none
 | _ => none
theorem set_same {α : Type} {l : List α} {i : Nat} {x : α} (h : l[i]? = some x) : l.set i x = l := by
 apply List.ext_getElem?
 intro j
 rw [List.getElem?_set]
 split
 · rename_i e; subst e
   have := AL h
   rw [if_pos this,h]
 · rfl
theorem NX {out out' : Out} {n' : Nat} {cs' : List D} {j : Nat} (h : Pf out n' cs' j = some out') (ho : ∀ p ∈ out'.obl,p) : out'.res = out.res ∧ out'.σ = out.σ ∧ out'.eff = out.eff ∧ ∀ p ∈ out.obl,p := by
 unfold Pf at h
 split at h
 · rename_i i n hr
   split at h
   · rename_i e sz cs hi
     simp only [Option.some.injEq] at h; subst h
     have e1 : n = n' := ho _ (by simp)
     have e2 : cs = cs' := ho _ (by simp)
     subst e1; subst e2
     exact ⟨hr.symm,set_same hi,rfl,fun p hp => ho p (by simp [hp])⟩
   · cases h
 · rename_i t n xs hr
   simp only [Option.some.injEq] at h; subst h
   have e1 : n = n' := ho _ (by simp)
   have e2 : xs = cs' := ho _ (by simp)
   subst e1; subst e2
   exact ⟨hr.symm,rfl,rfl,fun p hp => ho p (by simp [hp])⟩
 · rename_i hr
   split at h
   · rename_i e sz cs hi
     simp only [Option.some.injEq] at h; subst h
     have e2 : cs = cs' := ho _ (by simp)
     subst e2
     exact ⟨hr.symm,set_same hi,rfl,fun p hp => ho p (by simp [hp])⟩
   · rename_i t cs hi
     simp only [Option.some.injEq] at h; subst h
     have e2 : cs = cs' := ho _ (by simp)
     subst e2
     exact ⟨hr.symm,set_same hi,rfl,fun p hp => ho p (by simp [hp])⟩
   · cases h
 · cases h
def Env.put (env : Env) (t : Nat) (x : PV) : Env := (t,x) :: env.filter fun p => !(p.1 == t)
def Env.putO (env : Env) (t : Option Nat) (x : PV) : Env := match t with | some t => env.put t x | none => env
def Env.effs (e : Option (Nat × (Nat → PV))) (env : Env) : Env := match e with | none => env | some (i,r) => env.map fun p => (p.1,p.2.sub i r)
def Ho : List Nat → Env → List AObj → Option (Env × List AObj)
 | [],env,σ => some (env,σ)
 | i :: l,env,σ =>
   match σ[i]? with
   | some (.row _ _ cs) => Ho l (env.map fun p => (p.1,p.2.sub i fun n => .d (.list false n cs))) ((σ.map (AObj.sub i fun n => .d (.list false n cs))).set i .dead)
   | _ => none
def Ns (n : Nat) : Option Nat → Bool
 | some d => d < n
 | none => true
def M5 (ops : Array Oper) (env : Env) (o : Oper) : Option Bool :=
 match o.guard with
 | none => some true
 | some (j,want) =>
   match (ops[j]?).bind (·.dst) with
   | some t => match env.lookup t with
     | some (.d (.bool true)) => some want
     | some (.d (.bool false)) => some !want
     | some (.tup []) => some false
     | _ => none
   | none => none
def L1 : Op → Bool | .select _ _ => true | .defer _ => true | _ => false
theorem Mg {op : Op} (h : L1 op = false) : ∀ c,op ≠ .defer c := fun c e => by subst e; cases h
def msB : List Nat → List AObj → Bool
 | [],_ => true
 | i :: l,σ => (match σ[i]? with | some .mark => true | _ => false) && msB l σ
theorem msB_get {σ : List AObj} : ∀ {ms : List Nat},msB ms σ = true → ∀ i ∈ ms,σ[i]? = some .mark
 | [],_,i,h => by cases h
 | k :: l,hh,i,h => by
   simp only [msB,Bool.and_eq_true] at hh
   rcases List.mem_cons.1 h with rfl | h
   · have := hh.1; split at this
     · assumption
     · cases this
   · exact msB_get hh.2 i h
def effNo (ms : List Nat) (e : Option (Nat × (Nat → PV))) : Bool := match e with | none => true | some (j,_) => !(ms.contains j)
def Sx (P : Program) (n : Nat) (ops : Array Oper) (ms : List Nat) (tip : Tip) (o : Oper) (env : Env) (σ : List AObj) : Option (Env × List AObj × List Prop) :=
 if Ns n o.dst && !L1 o.op then
  match M5 ops env o with
  | some false => some (env.putO o.dst (.tup []),σ,[])
  | some true =>
    match Ho tip.settle env σ with
    | some (env,σ) =>
      if msB ms σ then
       match tip.res with
       | some res =>
         match o.op with
         | .call { callee := .value (.func f),args,.. } =>
           match J9 env.eval args.toList with
           | some ps => if PV.datas ps && res.isData && Ks P f then some (env.putO o.dst res,σ,[RW P f (PV.looses ps) res]) else none
           | none => none
         | _ => none
       | none =>
         match aop P env.eval o σ tip.orc with
         | some out =>
           match tip.form with
           | none => if msB ms out.σ && effNo ms out.eff then some ((env.effs out.eff).putO o.dst out.res,out.σ,out.obl) else none
           | some f => match Pf out f.1 f.2 tip.obj with
             | some out => if msB ms out.σ && effNo ms out.eff then some ((env.effs out.eff).putO o.dst out.res,out.σ,out.obl) else none
             | none => none
         | none => none
      else none
    | none => none
  | none => none
 else none
end Go.Ab
