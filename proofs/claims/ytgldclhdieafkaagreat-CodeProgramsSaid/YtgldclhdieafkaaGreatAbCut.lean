/- Steps, told in few words: what an operation is told and why that holds, in one; what is reckoned is looked at by itself. -/
import Derived.Test.YtgldclhdieafkaaGreatAbShort
import Derived.Test.YtgldclhdieafkaaGreatAbDraw4
import Derived.KernelRfl
namespace Go.Ab
open Go.RowKit
structure PT where
 k : Nat
 tip : Tip
 ps : List Prop
 ok : ∀ p ∈ ps,p
def O8 : List PT → List (Nat × Tip)
 | [] => []
 | t :: l => (t.k,t.tip) :: O8 l
def oblOf : List PT → List Prop
 | [] => []
 | t :: l => t.ps ++ oblOf l
theorem oblOf_ok : ∀ l : List PT,∀ p ∈ oblOf l,p
 | [],p,h => by cases h
 | t :: l,p,h => by
   rcases List.mem_append.1 h with h | h
   · exact t.ok p h
   · exact oblOf_ok l p h
section
variable {P : Program}
def bT {x v : Bool} (k : Nat) (h : x = v) : PT := ⟨k,{ orc := .val (.bool v) },[D.bool x = D.bool v],allc (congrArg D.bool h) all0⟩
def c0 {f : FuncId} {A : List PV} {S : List AObj} {res : PV} {σ' : List AObj} {e : List Nat} (k : Nat) (h : FnOK P f A S res σ' e) : PT := ⟨k,{ pc := some { ρ := [],n0 := 0,res := res,σ' := σ',e := e } },[FnOK P f A S res σ' e],allc h all0⟩
def cT {f : FuncId} {A : List PV} {S : List AObj} {res : PV} {σ' : List AObj} {e : List Nat} (k n0 : Nat) (ρ : List Nat) (h : FnOK P f A S res σ' e) : PT := ⟨k,{ pc := some { ρ := ρ,n0 := n0,res := res,σ' := σ',e := e } },[FnOK P f A S res σ' e],allc h all0⟩
def cX {f : FuncId} {A : List PV} {S : List AObj} {res : PV} {σ' : List AObj} {e : List Nat} (k n0 : Nat) (ρ s : List Nat) (lo : Bool) (h : FnOK P f A S res σ' e) : PT := ⟨k,{ settle := s,pc := some { ρ := ρ,n0 := n0,res := res,σ' := σ',e := e,loose := lo } },[FnOK P f A S res σ' e],allc h all0⟩
def yX {i : Nat} {A : List PV} {S : List AObj} {res : PV} {σ' : List AObj} {e : List Nat} (k n0 : Nat) (ρ s : List Nat) (lo : Bool) (h : RdOK P i A S res σ' e) : PT := ⟨k,{ settle := s,pc := some { ρ := ρ,n0 := n0,res := res,σ' := σ',e := e,loose := lo } },[RdOK P i A S res σ' e],allc h all0⟩
def eT {α : Type} {e : α → List D} {sz : Nat} (he : ∀ x,(e x).length = sz) (k : Nat) {l : List α} {i : Int} {x : α} (h : lAt l i = some x) : PT := ⟨k,{ orc := .cells (e x) },[Rm sz l.length (encL e l) i (e x)],allc (QU he h) all0⟩
def sT {s : ByteArray} {i y : Int} (k : Nat) (h : sAt s i = some y) : PT := ⟨k,{ orc := .val (.int .u8 y) },[sAt s i = some y],allc h all0⟩
def vT {p : Prop} (k : Nat) (d : D) (h : p) : PT := ⟨k,{ orc := .val d },[p],allc h all0⟩
def oT {p : Prop} (k : Nat) (h : p) : PT := ⟨k,{},[p],allc h all0⟩
def oN {l : List Prop} (k : Nat) (h : ∀ p ∈ l,p) : PT := ⟨k,{},l,h⟩
def tT {l : List Prop} (k : Nat) (tip : Tip) (h : ∀ p ∈ l,p) : PT := ⟨k,tip,l,h⟩
def aT {α : Type} {e : α → List D} {sz B : Nat} (he : ∀ x,(e x).length = sz) (k : Nat) (l m : List α) (hB : Nat.ble 1 B = true) (h : (l.length + m.length) * B ≤ 140737488355328) : PT :=
 ⟨k,{ form := some ((l ++ m).length,encL e (l ++ m)) },_,allc (SO l m) (allc (encL_app e l m) (allc (app_ok he (Nat.le_of_ble_eq_true hB) h) (allc (Jg he m) all0)))⟩
end
section
variable {P : Program} {ro : Option Nat} {E : Entry} {n : Nat} {Q : Exit → Act → World → Prop} {st : St} {id : Nat} {ops : Array Oper}
abbrev rgn (P : Program) (n : Nat) (ops : Array Oper) (st : St) (ks ρ : List Nat) (tips : List PT) : Option (St × List Prop) := finR ks ρ (marksOf st.σ) (runN P n ops (marksOf st.σ) (O8 tips) 0 ops.toList st.env st.σ)
theorem At.rG (ks ρ : List Nat) (tips : List PT) (hQ : ∀ a w,Sim E n (stOf (rgn P n ops st ks ρ tips)) a w → Q .normal a w) (h : obs (rgn P n ops st ks ρ tips) = some (oblOf tips) := by kernel_rfl) : At P ro E n (.region id ops false) Q st :=
 At.region_end ks ρ _ (R4 h) (oblOf_ok tips) hQ
theorem At.rK {st' : St} (ks ρ : List Nat) (tips : List PT) (hQ : ∀ a w,Sim E n st' a w → Q .normal a w) (h : rgn P n ops st ks ρ tips = some (st',oblOf tips) := by kernel_rfl) : At P ro E n (.region id ops false) Q st :=
 At.region_end ks ρ _ h (oblOf_ok tips) hQ
theorem At.sR {y : Code} (ks ρ : List Nat) (tips : List PT) (hQ : At P ro E n y Q (stOf (rgn P n ops st ks ρ tips))) (h : obs (rgn P n ops st ks ρ tips) = some (oblOf tips) := by kernel_rfl) : At P ro E n (.seq (.region id ops false) y) Q st :=
 At.seq (At.rG ks ρ tips (norm hQ) h)
theorem Sim.en {st' : St} {a : Act} {w : World} (h : Sim E n st a w) (l : List Ed) (ks ρ : List Nat) (he : Go.Ab.edNar l ks ρ st = some st' := by kernel_rfl) : Sim E n st' a w := h.edNar he
mutual
def PV.ixy : PV → List Nat → List Nat
 | .ptr i _,l => if l.contains i then l else i :: l
 | .row i _,l => if l.contains i then l else i :: l
 | .view i _ _,l => if l.contains i then l else i :: l
 | .mapv i,l => if l.contains i then l else i :: l
 | .yld i,l => if l.contains i then l else i :: l
 | .agg cs,l => PV.ixys cs l
 | .tup cs,l => PV.ixys cs l
 | .fn _ a b,l => PV.ixys a (PV.ixys b l)
 | _,l => l
def PV.ixys : List PV → List Nat → List Nat
 | [],l => l
 | x :: r,l => PV.ixy x (PV.ixys r l)
end
def TI : AObj → List Nat → List Nat
 | .blk _ cs,l => PV.ixys cs l
 | .mp _ vs,l => PV.ixys vs l
 | .loop _ _ _ _ _ vs _ _,l => PV.ixys vs l
 | _,l => l
def Qu (σ : List AObj) : List Nat → List Nat → List Nat
 | [],acc => acc
 | i :: l,acc => Qu σ l (match σ[i]? with | some o => TI o acc | none => acc)
def R1 (σ : List AObj) : Nat → List Nat → List Nat
 | 0,l => l
 | k + 1,l => R1 σ k (Qu σ l l)
def ixO (env : Env) (x : Operand) : List Nat := match env.eval x with | some v => PV.ixy v [] | none => []
def TQ (env : Env) (o : Oper) (σ : List AObj) : List Nat :=
 match o.op with
 | .load _ a => ixO env a
 | .store _ a _ => ixO env a
 | .slice _ x _ _ _ => ixO env x
 | .convert _ _ x => ixO env x
 | .lookup _ m _ _ => ixO env m
 | .insert _ m _ _ => ixO env m
 | .mapUpdate _ m _ _ => ixO env m
 | .call { callee := .builtin .append,args,.. } => (match J9 env.eval args.toList with | some l => PV.ixys l [] | none => [])
 | .call { callee := .value cl,args,.. } => (match env.eval cl,J9 env.eval args.toList with | some v,some l => R1 σ 6 (PV.ixys (v :: l) []) | _,_ => [])
 | _ => []
def Tx (tips : List (Nat × Tip)) (k r : Nat) (o : Oper) (st : St) : TipD := ⟨(tips.lookup k).getD {},TQ st.env o (st.σ.take r),r⟩
def Rr (P : Program) (n : Nat) (ops : Array Oper) (mk : List Nat) (tips : List (Nat × Tip)) (st0 : St) : Nat → List Oper → List Nat → List Rec → Nat → Option (List Rec × List Prop)
 | _,[],_,rs,_ => some (rs,[])
 | k,o :: rest,ms,rs,r =>
   match stepAt P n ops mk (Tx tips k r o (replay (maskOf ms o.after.toList 0) 0 rs st0)) o (replay (maskOf ms o.after.toList 0) 0 rs st0) with
   | some (rc,p) =>
     if LB k o.after.toList && PX (maskOf ms o.after.toList 0) rc 0 rs then
      match Rr P n ops mk tips st0 (k + 1) rest (ms ++ [maskOf ms o.after.toList 0]) (rs ++ [rc]) (max r rc.hi) with
      | some (rs',q) => some (rs',p ++ q)
      | none => none
     else none
   | none => none
theorem NS {mk : List Nat} {k : Nat} {td : TipD} {tips : List (Nat × TipD)} {st0 : St} : ∀ (l : List Oper) (j : Nat) (ms : List Nat) (rs : List Rec),k < j → runD P n ops mk ((k,td) :: tips) st0 j l ms rs = runD P n ops mk tips st0 j l ms rs
 | [],_,_,_,_ => rfl
 | o :: l,j,ms,rs,h => by
   have hne : (j == k) = false := by simp; omega
   simp only [runD,List.lookup_cons,hne]
   cases stepAt P n ops mk ((List.lookup j tips).getD {}) o (replay (maskOf ms o.after.toList 0) 0 rs st0) with
   | none => rfl
   | some x => simp only [NS l (j + 1) _ _ (show k < j + 1 by omega)]
theorem Qs {mk : List Nat} {tips : List (Nat × Tip)} {st0 : St} : ∀ (l : List Oper) (k : Nat) {ms : List Nat} {rs : List Rec} {r : Nat} {x : List Rec × List Prop},Rr P n ops mk tips st0 k l ms rs r = some x → ∃ td,runD P n ops mk td st0 k l ms rs = some x
 | [],k,ms,rs,r,x,h => ⟨[],h⟩
 | o :: rest,k,ms,rs,r,x,h => by
   simp only [Rr] at h
   split at h
   · rename_i rc p hst
     split at h
     · rename_i hc
       split at h
       · rename_i rs' q hr
         obtain ⟨td,ht⟩ := Qs rest (k + 1) hr
         refine ⟨(k,Tx tips k r o (replay (maskOf ms o.after.toList 0) 0 rs st0)) :: td,?_⟩
         simp only [runD,List.lookup_cons,beq_self_eq_true,Option.getD_some,hst]
         rw [if_pos hc,NS rest (k + 1) _ _ (by omega),ht]
         exact h
       · cases h
     · cases h
   · cases h
def runAA (P : Program) (n : Nat) (ops : Array Oper) (tips : List (Nat × Tip)) (pad : Nat) (st : St) : Option (Env × List AObj × List Prop) :=
 match Rr P n ops (marksOf st.σ) tips ⟨st.env,st.σ ++ List.replicate pad .dead⟩ 0 ops.toList [] [] st.σ.length with
 | some (rs,p) => some ((OR rs ⟨st.env,st.σ ++ List.replicate pad .dead⟩).env,(OR rs ⟨st.env,st.σ ++ List.replicate pad .dead⟩).σ,p)
 | none => none
theorem SB {tips : List (Nat × Tip)} {pad : Nat} {x : Env × List AObj × List Prop} (h : runAA P n ops tips pad st = some x) : ∃ td,Rq P n ops td pad st = some x := by
 unfold runAA at h
 split at h
 · rename_i rs p hr
   obtain ⟨td,ht⟩ := Qs ops.toList 0 hr
   refine ⟨td,?_⟩
   unfold Rq
   rw [ht]; exact h
 · cases h
abbrev dgn (P : Program) (n : Nat) (ops : Array Oper) (st : St) (pad : Nat) (ks ρ : List Nat) (tips : List PT) : Option (St × List Prop) := finR ks ρ (marksOf st.σ) (runAA P n ops (O8 tips) pad st)
theorem At.dK {st' : St} (pad : Nat) (ks ρ : List Nat) (tips : List PT) (hQ : ∀ a w,Sim E n st' a w → Q .normal a w) (h : dgn P n ops st pad ks ρ tips = some (st',oblOf tips) := by kernel_rfl) (hm : P.follows .mixedOrders = true := by kernel_rfl) : At P ro E n (.region id ops true) Q st := by
 unfold dgn at h
 cases hx : runAA P n ops (O8 tips) pad st with
 | none => rw [hx] at h; cases h
 | some x =>
   obtain ⟨td,ht⟩ := SB hx
   rw [hx,← ht] at h
   exact At.draw_end hm pad ks ρ _ h (oblOf_ok tips) hQ
theorem At.dG (pad : Nat) (ks ρ : List Nat) (tips : List PT) (hQ : ∀ a w,Sim E n (stOf (dgn P n ops st pad ks ρ tips)) a w → Q .normal a w) (h : obs (dgn P n ops st pad ks ρ tips) = some (oblOf tips) := by kernel_rfl) (hm : P.follows .mixedOrders = true := by kernel_rfl) : At P ro E n (.region id ops true) Q st :=
 At.dK pad ks ρ tips hQ (R4 h) hm
theorem At.sD {y : Code} (pad : Nat) (ks ρ : List Nat) (tips : List PT) (hQ : At P ro E n y Q (stOf (dgn P n ops st pad ks ρ tips))) (h : obs (dgn P n ops st pad ks ρ tips) = some (oblOf tips) := by kernel_rfl) (hm : P.follows .mixedOrders = true := by kernel_rfl) : At P ro E n (.seq (.region id ops true) y) Q st :=
 At.seq (At.dG pad ks ρ tips (norm hQ) h hm)
theorem At.nR {c : Code} (ks ρ : List Nat) (h2 : At P ro E n c Q (stO (narR ks ρ st))) (h : isS (narR ks ρ st) = true := by kernel_rfl) : At P ro E n c Q st := At.nar ks ρ (of_isS h) h2
theorem At.nK {c : Code} {st' : St} (ks ρ : List Nat) (h2 : At P ro E n c Q st') (h : narR ks ρ st = some st' := by kernel_rfl) : At P ro E n c Q st := At.nar ks ρ h h2
theorem At.eN {c : Code} (l : List Ed) (ks ρ : List Nat) (h2 : At P ro E n c Q (stO (Go.Ab.edNar l ks ρ st))) (h : isS (Go.Ab.edNar l ks ρ st) = true := by kernel_rfl) : At P ro E n c Q st := At.edNar l ks ρ (of_isS h) h2
theorem At.cd {R : Type} {t : Nat} {x y : Code} {b : Bool} {u v : Option R} {r : R} (h : _root_.cond b u v = some r) (ht : b = true → u = some r → At P ro E n x Q st) (hf : b = false → v = some r → At P ro E n y Q st) (hl : st.env.lookup t = some (.d (.bool b)) := by kernel_rfl) : At P ro E n (.cond (.tmp t) x y) Q st :=
 At.cond b hl (fun e => ht e (Tu e h)) (fun e => hf e (Tv e h))
theorem At.cy {t : Nat} {x y : Code} (h : At P ro E n x Q st) (hl : st.env.lookup t = some (.d (.bool true)) := by kernel_rfl) : At P ro E n (.cond (.tmp t) x y) Q st := At.cond true hl (fun _ => h) (fun e => by cases e)
theorem At.cn {t : Nat} {x y : Code} (h : At P ro E n y Q st) (hl : st.env.lookup t = some (.d (.bool false)) := by kernel_rfl) : At P ro E n (.cond (.tmp t) x y) Q st := At.cond false hl (fun e => by cases e) (fun _ => h)
theorem At.lp {S R : Type} {step : S → Option (S ⊕ R)} {r : R} {s0 : S} {c : Code} (f : S → St) (h : Loop step s0 = some r)
    (hbody : ∀ s o,step s = some o → (∀ r',o = .inr r' → r' = r) → At P ro E n c (Exit.then (fun a w => ∃ s',o = .inl s' ∧ Sim E n (f s') a w) Q) (f s)) : At P ro E n (.loop c) Q (f s0) := At.loop step f r s0 h hbody
end
def gsR : Option (PV × List AObj × List AObj × List Prop) → List AObj
 | some x => x.2.2.1
 | none => []
section
variable {P : Program} {E : Entry} {n : Nat} {σ σ' : List AObj} {fn : Func} {st : St} {res : PV} {gv : Nat → Value} {e : List Nat} {R : Ending → World → Prop}
theorem At.rR (hR : ∀ v w' hz' φ',Mem E hz' φ' σ' w' → RetR gv e σ res v w' hz' φ' → R (.returned v) w') (ρ : List Nat)
    (h : retF P fn σ.length ρ st = some (res,σ',gsR (retF P fn σ.length ρ st),[]) := by kernel_rfl) (hi : (N9 σ.length ρ && nodupB ρ) = true := by kernel_rfl)
    (hk : Ng e 0 σ (gsR (retF P fn σ.length ρ st)) = M6 gv e 0 σ := by kernel_rfl) (hl : (gsR (retF P fn σ.length ρ st)).length = σ.length := by kernel_rfl) : ∀ a w,Sim E n st a w → FinP P fn R .ret a w :=
 fun a w hs => ret_ok hR h all0 hi hk hl a w hs _ (.inl rfl)
theorem At.rQ (hR : ∀ v w' hz' φ',Mem E hz' φ' σ' w' → RetR gv e σ res v w' hz' φ' → R (.returned v) w') (ρ : List Nat) {obl : List Prop} (ho : ∀ p ∈ obl,p)
    (h : retF P fn σ.length ρ st = some (res,σ',gsR (retF P fn σ.length ρ st),obl) := by kernel_rfl) (hi : (N9 σ.length ρ && nodupB ρ) = true := by kernel_rfl)
    (hk : Ng e 0 σ (gsR (retF P fn σ.length ρ st)) = M6 gv e 0 σ := by kernel_rfl) (hl : (gsR (retF P fn σ.length ρ st)).length = σ.length := by kernel_rfl) : ∀ a w,Sim E n st a w → FinP P fn R .ret a w :=
 fun a w hs => ret_ok hR h ho hi hk hl a w hs _ (.inl rfl)
theorem At.rN (hR : ∀ v w' hz' φ',Mem E hz' φ' σ' w' → RetR gv e σ res v w' hz' φ' → R (.returned v) w') (ρ : List Nat)
    (h : retF P fn σ.length ρ st = some (res,σ',gsR (retF P fn σ.length ρ st),[]) := by kernel_rfl) (hi : (N9 σ.length ρ && nodupB ρ) = true := by kernel_rfl)
    (hk : Ng e 0 σ (gsR (retF P fn σ.length ρ st)) = M6 gv e 0 σ := by kernel_rfl) (hl : (gsR (retF P fn σ.length ρ st)).length = σ.length := by kernel_rfl) : ∀ a w,Sim E n st a w → FinP P fn R .normal a w :=
 fun a w hs => ret_ok hR h all0 hi hk hl a w hs _ (.inr rfl)
theorem fI {f : FuncId} {c : Code} {args : List PV} (hf : P.funcs[f]? = some fn) (hb : fn.body = some c)
    (h : ∀ E gv (R : Ending → World → Prop),(∀ v w' hz' φ',Mem E hz' φ' σ' w' → RetR gv e σ res v w' hz' φ' → R (.returned v) w') → At P none E fn.ntmps c (FinP P fn R) ⟨LT 0 args,σ ++ ghs gv 0 σ⟩)
    (hn : Nat.ble args.length fn.ntmps = true := by kernel_rfl) (hbase : (MK e 0 σ && eqN (marksOf (σ ++ ghs (fun _ => undef) 0 σ)) []) = true := by kernel_rfl) : FnOK P f args σ res σ' e :=
 FnOK.intro hf hb hn hbase h
end
theorem cs {α : Type} {b : Bool} {x y : Option α} {r : α} (h : cond b x y = some r) : (b = true ∧ x = some r) ∨ (b = false ∧ y = some r) := by
 cases b
 · exact .inr ⟨rfl,h⟩
 · exact .inl ⟨rfl,h⟩
theorem bs {α β : Type} {x : Option α} {k : α → Option β} {r : β} (h : x.bind k = some r) : ∃ y,x = some y ∧ k y = some r := Option.bind_eq_some_iff.1 h
theorem gs {α : Type} {p : Prop} [Decidable p] {k : Option α} {r : α} (h : grd p k = some r) : p ∧ k = some r := RF h
theorem sq {α : Type} {x r : α} (h : some x = some r) : x = r := Option.some.inj h
theorem nn {α : Type} {r : α} {p : Prop} (h : (none : Option α) = some r) : p := by cases h
theorem mr {S R : Type} {x : Option R} {o : S ⊕ R} (h : x.map Sum.inr = some o) : ∃ r,x = some r ∧ o = .inr r := SM h
theorem li {S : Type} {s : S} {R : Type} {o : S ⊕ R} (h : some (.inl s) = some o) : o = .inl s := (Option.some.inj h).symm
mutual
def PV.isSc : PV → Bool
 | .d (.int _ _) => true
 | .d (.bool _) => true
 | .d (.str _) => true
 | .agg l => PV.isScs l
 | .tup l => PV.isScs l
 | _ => false
def PV.isScs : List PV → Bool
 | [] => true
 | x :: l => PV.isSc x && PV.isScs l
end
theorem Mp : ∀ {l : List PV} {j : Nat} {x : PV},PV.isScs l = true → l[j]? = some x → PV.isSc x = true
 | [],_,_,_,h => by simp at h
 | y :: l,0,x,hs,h => by simp only [PV.isScs,Bool.and_eq_true] at hs; simp at h; subst h; exact hs.1
 | y :: l,j + 1,x,hs,h => by simp only [PV.isScs,Bool.and_eq_true] at hs; exact Mp hs.2 (by simpa using h)
theorem RelV.sc {hz hz' : Hp} {φ φ' : Phi} {v : Value} {x : PV} (h : RelV hz φ v x) (hs : x.isSc = true) : RelV hz' φ' v x := by
 induction h with
 | d h =>
   cases h with
   | int k n => exact .d (.int k n)
   | bool b => exact .d (.bool b)
   | str s => exact .d (.str s)
   | _ => simp [PV.isSc] at hs
 | agg cs cs' hl _ ih => exact .agg cs cs' hl fun j x hj => ih j x hj (Mp (by simpa [PV.isSc] using hs) hj)
 | tup cs cs' hl _ ih => exact .tup cs cs' hl fun j x hj => ih j x hj (Mp (by simpa [PV.isSc] using hs) hj)
 | _ => simp [PV.isSc] at hs
def Og : Nat → Env → Bool
 | _,[] => true
 | k,(t,_) :: l => Nat.beq t k && Og (k + 1) l
theorem M1 : ∀ {l : Env} {k j : Nat} {x : PV},Og k l = true → (l.map fun q => q.2)[j]? = some x → l.lookup (k + j) = some x
 | [],_,_,_,_,h => by simp at h
 | (t,y) :: l,k,0,x,ha,h => by
   simp only [Og,Bool.and_eq_true] at ha
   have := Nat.eq_of_beq_eq_true ha.1; subst this
   simp at h; subst h
   simp [List.lookup]
 | (t,y) :: l,k,j + 1,x,ha,h => by
   simp only [Og,Bool.and_eq_true] at ha
   have := Nat.eq_of_beq_eq_true ha.1; subst this
   have ih := M1 (k := t + 1) ha.2 (by simpa using h)
   rw [show t + (j + 1) = t + 1 + j by omega]
   simp only [List.lookup]
   rw [show (t + 1 + j == t) = false by simp; omega]
   exact ih
def keepC (ids : List Nat) (args : List PV) (σ : List AObj) : Option (List PV) :=
 match Ho ids (LT 0 args) σ with
 | some (env',_) => if Og 0 env' && Nat.beq env'.length args.length then PV.rens (ixOf []) (PV.los (env'.map fun q => q.2)) else none
 | none => none
theorem FnOK.keep {P : Program} {f : FuncId} {a args : List PV} {σ : List AObj} {res : PV} (ids : List Nat) (h : FnOK P f a [] res [] []) (hk : keepC ids args σ = some a := by kernel_rfl) (hs : res.isSc = true := by kernel_rfl) : FnOK P f args σ res σ [] := by
 intro w hz own φ vals hM hv
 unfold keepC at hk
 split at hk
 case h_2 => cases hk
 rename_i env' σd hset
 split at hk
 case isFalse => cases hk
 rename_i hc
 simp only [Bool.and_eq_true] at hc
 have hlen := Nat.eq_of_beq_eq_true hc.2
 have hE : Hj hz φ (LT 0 args) ⟨vals,[]⟩ := by
  intro t x hx
  obtain ⟨_,hx'⟩ := argEnv_get hx
  simp at hx'
  have hlt := AL hx'
  have hvs : t < vals.size := by rw [hv.1]; exact hlt
  refine ⟨vals[t],by simp [hvs],?_⟩
  have := hv.2 t x hx'
  simpa [Array.getD_eq_getD_getElem?,hvs] using this
 obtain ⟨hz1,hM1,hE1⟩ := F1 hM hE hset
 have hM0 : Mem ⟨w,hz1,fun _ => False⟩ hz1 (fun _ => none) [] w :=
  { knows := hM1.knows
    objs := fun i o hi => by simp at hi
    inj := fun i j oi oj g c c' hi => by simp at hi
    new := fun i o g c hi => by simp at hi
    dom := fun _ _ => rfl
    caps := fun i g c hp => by cases hp
    os := rfl,tape := rfl,output := rfl,size := Nat.le_refl _,kept := fun _ _ _ => rfl
    hle := Hp.le_refl _,hnew := fun g o hg => .inl hg }
 obtain ⟨ra,rb⟩ := H1 hk
 have hv0 : RelL hz1 (fun _ => none) vals a := by
  refine ⟨by rw [ra,Hq,List.length_map,hlen]; exact hv.1,fun j y hj => ?_⟩
  obtain ⟨x,hx,hxr⟩ := rb j y hj
  obtain ⟨z,hz',rfl⟩ := Jl hx
  have hl := M1 hc.1 hz'
  rw [Nat.zero_add] at hl
  obtain ⟨v,hvv,hr⟩ := hE1 j z hl
  have e : vals[j]? = some v := hvv
  rw [Array.getD_eq_getD_getElem?,e]
  exact hr.lo.ren (f := ixOf []) (fun i k r hi => by simp [ixOf] at hi) y hxr
 refine (h w hz1 (fun _ => False) (fun _ => none) vals hM0 hv0).mono ?_
 rintro en w' ⟨v,hz2,φ2,rfl,k1,k2,_⟩
 have hheap : ∀ k,k < w.heap.size → w'.heap[k]? = w.heap[k]? := fun k hk => k2.kept k hk (fun h => h)
 refine ⟨v,hz,φ,rfl,k1.sc hs,?_,fun u x hx => by rw [Kr]; exact hx⟩
 exact
 { knows := fun g o hg => by
     have := hM.knows g o hg
     rw [hheap g (lt_of_get this)]; exact this
   objs := fun i o hi => (hM.objs i o hi).tr (Hp.le_refl _) (Phi.le_refl _) fun g c _ _ hne hn => by
    refine ⟨hheap g ?_,hn⟩
    rcases Nat.lt_or_ge g w.heap.size with hl | hl
    · exact hl
    · exact absurd (Array.getElem?_eq_none hl) hne
   inj := hM.inj,new := hM.new,dom := hM.dom,caps := hM.caps
   os := k2.os,tape := k2.tape,output := k2.output,size := k2.size
   kept := fun k hk _ => hheap k hk
   hle := Hp.le_refl _,hnew := fun g o hg => .inl hg }
def scD : D → Bool
 | .int _ _ => true
 | .bool _ => true
 | .str _ => true
 | _ => false
theorem RelD.sc {hz hz' : Hp} {v : Value} {x : D} (h : RelD hz v x) (hs : scD x = true) : RelD hz' v x := by
 cases h with
 | int k n => exact .int k n
 | bool b => exact .bool b
 | str s => exact .str s
 | _ => simp [scD] at hs
section
variable {E : Entry} {hz : Hp} {φ : Phi} {σ : List AObj} {w : World}
open Classical in
end
end Go.Ab
