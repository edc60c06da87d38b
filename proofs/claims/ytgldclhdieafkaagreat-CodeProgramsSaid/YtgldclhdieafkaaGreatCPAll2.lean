/- Parts of the proof, one behind the other. -/
import Derived.Test.YtgldclhdieafkaaGreatCPAll1
section
namespace Go.Ab
set_option linter.unusedVariables false
def evOf (P : Ah) (nv : Nat) : Ev := ⟨nv,fun a b => ∃ c ∈ P.Chans,c.Base = a ∧ c.Size = b,fun a b => ∃ rt,lAt P.Routines a = some rt ∧ b = rt.Params⟩
def jn (a b : List Ac) : List Ac := a ++ b.map (absI a.length)
theorem MV (M N : List An) : jn (absL 0 M) (absL 0 N) = absL 0 (M ++ N) := by
 unfold jn
 rw [BK,Ji,IL]
theorem Ps (a b : List Ac) : (jn a b).length = a.length + b.length := by unfold jn; simp
theorem QO (M : List An) (x : Ac) (s : Sp) (h : absI 0 x = x) : jn (absL 0 M) [x] = absL 0 (M ++ [(x,s)]) := by
 rw [← MV,JH,h]
theorem K9 (M : List An) (x : Ac) (s : Sp) : absL 0 M ++ [absI M.length x] = absL 0 (M ++ [(x,s)]) := by
 rw [IL,JH,Int.zero_add]
theorem MA (x : Ac) : absI 0 x = x := by
 unfold absI
 split
 · rename_i h; cases x; simp
 · split
   · rename_i h h2; cases x; simp
   · rfl
def TermC (e : Ev) (C : List Ac) (k : Nat) : Prop := ∀ (n : Nat) (c : Bool),n + k ≤ 90000 → ∃ M,C = absL 0 M ∧ M.length ≤ 5 * k ∧ Frag e M ⟨n,c,false⟩ ⟨n + 1,c,false⟩ ∧ mkM M = []
theorem TermC.len {e : Ev} {C : List Ac} {k : Nat} (h : TermC e C k) (hk : k ≤ 5000) : C.length ≤ 5 * k := by
 obtain ⟨M,rfl,h2,_⟩ := h 0 false (by omega)
 rw [BK]; exact h2
theorem TermC.bd {e : Ev} {C : List Ac} {k : Nat} (h : TermC e C k) (hk : k ≤ 5000) : ∀ x ∈ C,BdI x := by
 obtain ⟨M,rfl,h2,h3,_⟩ := h 0 false (by omega)
 exact absL_bd M 0 (h3.rb (by omega)).bd (by omega) (by omega)
theorem P0 {e : Ev} (A C : List Ac) (k : Nat) (h : TermC e C k) (hk : k ≤ 5000) (hA : A.length ≤ 100000) : Ar A C = some (jn A C) := KU A C hA (by have := h.len hk; omega) (h.bd hk)
theorem RA (A : List Ac) (x : Ac) (hA : A.length ≤ 100000) (hx : BdI x) : Ar A [x] = some (jn A [x]) := KU A [x] hA (by simp) (fun y hy => by simp at hy; subst hy; exact hx)
theorem bdI_plain {x : Ac} (h1 : x.Op ≠ 19) (h2 : tgB x.Op = false) : BdI x := ⟨fun h => absurd h h1,fun h => by rw [h2] at h; cases h⟩
theorem TermC.mono {e : Ev} {C : List Ac} {k k' : Nat} (h : TermC e C k) (hk : k ≤ k') : TermC e C k' := fun n c hn => by
 obtain ⟨M,a,b,d⟩ := h n c (by omega)
 exact ⟨M,a,by omega,d⟩
theorem TermC.snoc {e : Ev} {C : List Ac} {k : Nat} (h : TermC e C k) (x : Ac) (hx : ∀ (n : Nat) (c : Bool),Ok1 e [] [] ⟨n + 1,c,false⟩ x ⟨n + 1,c,false⟩) (h1 : x.Op ≠ 1) : TermC e (jn C [x]) (k + 1) := fun n c hn => by
 obtain ⟨M,a,b,d,m⟩ := h n c (by omega)
 refine ⟨M ++ [(x,⟨n + 1,c,false⟩)],by rw [a,QO _ _ _ (MA x)],by simp; omega,d.app (Frag.one (hx n c) (by show n + 1 ≤ 100000; omega)),by rw [D9,m,IS _ h1]; rfl⟩
theorem TermC.bin {e : Ev} {C D : List Ac} {k k' : Nat} (h : TermC e C k) (h' : TermC e D k') (op : Int) (hw : wdN op = 2) : TermC e (jn (jn C D) [⟨5,op,0⟩]) (k + k' + 1) := fun n c hn => by
 obtain ⟨M,a,b,d,m⟩ := h n c (by omega)
 obtain ⟨M',a',b',d',m'⟩ := h' (n + 1) c (by omega)
 refine ⟨M ++ M' ++ [(⟨5,op,0⟩,⟨n + 1 + 1,c,false⟩)],by rw [a,a',MV,QO _ _ _ rfl],by simp; omega,(d.app d').app (Frag.one ?_ (by show n + 1 + 1 ≤ 100000; omega)),by rw [D9,D9,m,m',IS _ (by simp)]; rfl⟩
 have := Ok1.str (e := e) (P := []) (Q := []) (o := ⟨n + 1,c,false⟩) ⟨5,op,0⟩ (wdN op) n c (.app op (by omega)) ⟨rfl,rfl⟩
 rw [hw] at this
 exact this
theorem TermC.andor {e : Ev} {C D : List Ac} {k k' : Nat} (h : TermC e C k) (h' : TermC e D k') (op a1 a2 : Int) (ho : op = 7 ∨ op = 8) (f : Int) (hf : f = (C.length : Int) + D.length + 4) :
    TermC e ((jn (C ++ [⟨op,f,0⟩]) D ++ [⟨op,f,0⟩]) ++ [⟨2,a1,0⟩,⟨6,f + 1,0⟩,⟨2,a2,0⟩]) (k + k' + 1) := fun n c hn => by
 obtain ⟨M,a,b,d,m⟩ := h n c (by omega)
 obtain ⟨M',a',b',d',m'⟩ := h' n c (by omega)
 have la : C.length = M.length := by rw [a,BK]
 have lb : D.length = M'.length := by rw [a',BK]
 have hop : ∀ (z : Int) (q : Int),absI q ⟨op,z,0⟩ = ⟨op,z + q,0⟩ := by rcases ho with rfl | rfl <;> exact fun z q => rfl
 have ho1 : op ≠ 1 := by omega
 let R : List An := (⟨op,(M'.length : Int) + 4,0⟩,⟨n + 1,c,false⟩) :: (M' ++ [(⟨op,3,0⟩,⟨n + 1,c,false⟩),(⟨2,a1,0⟩,⟨n,c,false⟩),(⟨6,2,0⟩,⟨n + 1,c,false⟩),(⟨2,a2,0⟩,⟨n,c,false⟩)])
 have wf : Frag e R ⟨n + 1,c,false⟩ ⟨n + 1,c,false⟩ := by
  refine ⟨⟨⟨.zero op _ n c ho ?_ ?_,by show n + 1 ≤ 100000; omega⟩,WF.app M' _ _ [] _ (d'.at _ _ _ rfl) ?_⟩,rfl⟩
  · show (hd ((M' ++ _) ++ []) _).n = n ∧ _
    rw [List.append_nil,JS]
    show (hd M' (⟨n + 1,c,false⟩ : Sp)).n = n ∧ (hd M' (⟨n + 1,c,false⟩ : Sp)).c = c
    rw [d'.beg]; exact ⟨rfl,rfl⟩
  · exact ⟨M' ++ [(⟨op,3,0⟩,⟨n + 1,c,false⟩),(⟨2,a1,0⟩,⟨n,c,false⟩),(⟨6,2,0⟩,⟨n + 1,c,false⟩)],[(⟨2,a2,0⟩,⟨n,c,false⟩)],by simp,by simp; omega,⟨rfl,rfl⟩⟩
  · refine ⟨⟨.zero op 3 n c ho ⟨rfl,rfl⟩ ⟨[(⟨2,a1,0⟩,⟨n,c,false⟩),(⟨6,2,0⟩,⟨n + 1,c,false⟩)],[(⟨2,a2,0⟩,⟨n,c,false⟩)],rfl,rfl,⟨rfl,rfl⟩⟩,by show n + 1 ≤ 100000; omega⟩,⟨.str ⟨2,a1,0⟩ 0 n c (.push a1) ⟨rfl,rfl⟩,by show n ≤ 100000; omega⟩,⟨.jump 2 (n + 1) c false ⟨[(⟨2,a2,0⟩,⟨n,c,false⟩)],[],rfl,rfl,⟨rfl,rfl,fun h => by cases h⟩⟩,by show n + 1 ≤ 100000; omega⟩,⟨.str ⟨2,a2,0⟩ 0 n c (.push a2) ⟨rfl,rfl⟩,by show n ≤ 100000; omega⟩,trivial⟩
 refine ⟨M ++ R,?_,?_,d.app wf,?_⟩
 · have e1 : C ++ [⟨op,f,0⟩] = absL 0 (M ++ [(⟨op,(M'.length : Int) + 4,0⟩,⟨n + 1,c,false⟩)]) := by
     rw [← K9,← a,hop,hf,la,lb,show (M'.length : Int) + 4 + M.length = M.length + M'.length + 4 by omega]
   rw [e1,a',MV]
   have e2 : R = [(⟨op,(M'.length : Int) + 4,0⟩,⟨n + 1,c,false⟩)] ++ M' ++ [(⟨op,3,0⟩,⟨n + 1,c,false⟩),(⟨2,a1,0⟩,⟨n,c,false⟩),(⟨6,2,0⟩,⟨n + 1,c,false⟩),(⟨2,a2,0⟩,⟨n,c,false⟩)] := by simp [R]
   rw [e2,← List.append_assoc,← List.append_assoc,IL (M ++ [_] ++ M')]
   rw [List.append_assoc]
   congr 1
   have e3 : (0 : Int) + ((M ++ [((⟨op,(M'.length : Int) + 4,0⟩ : Ac),(⟨n + 1,c,false⟩ : Sp))] ++ M').length : Int) = (M.length : Int) + M'.length + 1 := by simp; omega
   rw [e3]
   show _ = [absI _ ⟨op,3,0⟩,⟨2,a1,0⟩,⟨6,2 + _,0⟩,⟨2,a2,0⟩]
   rw [hop,hf,la,lb]
   simp
   omega
 · simp [R]; omega
 · rw [D9,m]
   show [] ++ mkM ((⟨op,_,0⟩,_) :: _) = []
   rw [Je _ _ ho1,D9,m',Je _ _ ho1,Je _ _ (by simp),Je _ _ (by simp),Je _ _ (by simp)]
   rfl
theorem bnd {α β : Type} {x : Option α} {a : α} (h : x = some a) (f : α → Option β) : x.bind f = f a := by rw [h]; rfl
theorem R7 {e : Ev} (A C : List Ac) (k : Nat) (h : TermC e C k) (hk : k ≤ 5000) (hA : A.length ≤ 100000) : A1 A C = some (jn A C) := P0 A C k h hk hA
theorem QN (A : List Ac) (x : Ac) (hA : A.length ≤ 100000) (hx : BdI x) : AF A [x] = some (jn A [x]) := RA A x hA hx
abbrev ND := List Aa → Ah → Int → Option (List Ac)
theorem Qk {e : Ev} (self : ND) {C D : List Ac} {k k' : Nat} (t1 : TermC e C k) (t2 : TermC e D k') (hk : k + k' ≤ 3000) (op a1 : Int) (ho : op = 7 ∨ op = 8) : ∃ C',Du self C D op a1 = some C' ∧ TermC e C' (k + k' + 1) := by
 have lc := t1.len (by omega); have ld := t2.len (by omega)
 have ej : A1 C [] = some C := by
  have := KU C [] (by omega) (by simp) (by simp)
  simp at this
  exact this
 have hf : w64 (w64 ((C.length : Int) + D.length) + 4) = (C.length : Int) + D.length + 4 := by
  rw [w64i (n := (C.length : Int) + D.length) (by omega) (by omega),w64i (by omega) (by omega)]
 have hf1 : w64 ((C.length : Int) + D.length + 4 + 1) = (C.length : Int) + D.length + 4 + 1 := w64i (by omega) (by omega)
 refine ⟨_,?_,t1.andor t2 op (w64 (1 - a1)) a1 ho _ rfl⟩
 unfold Du
 rw [bnd ej,hf,hf1,JF (by rw [List.length_singleton]; omega),bnd (R7 (C ++ [(⟨op,(C.length : Int) + D.length + 4,0⟩ : Ac)]) D k' t2 (by omega) (by rw [List.length_append,List.length_singleton]; omega)),JF (by simp only [Ps,List.length_append,List.length_singleton]; omega),JF (by simp only [Ps,List.length_append,List.length_cons,List.length_nil]; omega)]
theorem Ss {e : Ev} (self : ND) {C D : List Ac} {k k' : Nat} (t1 : TermC e C k) (t2 : TermC e D k') (hk : k + k' ≤ 3000) (x : Aa) (hw : wdN x.Op = 2) (b : Bool) : ∃ C',CS self x C D b = some C' ∧ TermC e C' (k + k' + 1) := by
 have lc := t1.len (by omega); have ld := t2.len (by omega)
 unfold CS
 cases b with
 | true =>
   refine ⟨jn (jn C D) [⟨5,x.Op,0⟩],?_,t1.bin t2 x.Op hw⟩
   show (A1 C D).bind _ = _
   rw [bnd (R7 C D k' t2 (by omega) (by omega)),bnd (show Co 5 x.Op 0 = some [⟨5,x.Op,0⟩] from rfl),bnd (QN (jn C D) ⟨5,x.Op,0⟩ (by rw [Ps]; omega) (bdI_plain (by simp) rfl))]
 | false =>
   by_cases h17 : x.Op = 17
   · rw [beqt h17]; exact Qk self t1 t2 hk 8 1 (.inr rfl)
   · rw [beqf h17]; exact Qk self t1 t2 hk 7 0 (.inl rfl)
theorem Iu {l : List Aa} {P : Ah} {nv : Nat} (hl : l.length ≤ 3000) : ∀ (fuel i j : Nat),Pcs l [.E] i j [i] → j - i < fuel → (∀ p,i ≤ p → p < j → NdF l P nv p) → ∃ C,AN fuel l P i = some C ∧ TermC (evOf P nv) C (j - i)
 | 0,i,j,_,h,_ => by omega
 | fuel + 1,i,j,hp,hf,hn => by
   obtain ⟨x,kc,ks,hx,hs,hk,_⟩ := hp.at_
   have hi : i < l.length := (List.getElem?_eq_some_iff.mp hx).1
   have hij := hp.le.2.1 (by simp)
   have nf := hn i (by omega) (by omega)
   rw [show AN (fuel + 1) l P i = F6 (AN fuel) l P i from rfl]
   unfold F6
   rw [lAtn,hx]
   have nx : nd l i = x := JT hx
   show ∃ C,cond (x.Op == 1) _ _ = some C ∧ _
   cases hs with
   | num h k =>
     rw [beqt h]
     refine ⟨[⟨2,x.N,0⟩],rfl,fun n c hn => ⟨[(⟨2,x.N,0⟩,⟨n,c,false⟩)],rfl,by simp; omega,Frag.one (.str _ 0 n c (.push _) ⟨rfl,rfl⟩) (by show n ≤ 100000; omega),rfl⟩⟩
   | name h k =>
     obtain ⟨v,v1,v2,v3⟩ := nf.var (.inl (by rw [nx]; exact .inl h))
     rw [beqf (by omega),beqt h,v1]
     refine ⟨[⟨3,v,0⟩],rfl,fun n c hn => ⟨[(⟨3,v,0⟩,⟨n,c,false⟩)],rfl,by simp; omega,Frag.one (.str _ 0 n c (.load _ v2 v3) ⟨rfl,rfl⟩) (by show n ≤ 100000; omega),rfl⟩⟩
   | un h k =>
     obtain ⟨j',ts,p1,p2,rfl⟩ := hk.split
     cases p2
     obtain ⟨C,e1,t1⟩ := Iu hl fuel (i + 1) j p1 (by omega) (fun p a b => hn p (by omega) b)
     have hw : wdN x.Op = 1 := by unfold wdN; rw [if_pos h]
     refine ⟨jn C [⟨5,x.Op,0⟩],?_,?_⟩
     · have : ∀ b,BQ (AN fuel) l P i x b = BQ (AN fuel) l P i x b := fun _ => rfl
       have j1 : BQ (AN fuel) l P i x true = some (jn C [⟨5,x.Op,0⟩]) := by
        unfold BQ
        rw [w64s (by omega)]
        show ((AN fuel l P ((i + 1 : Nat) : Int)).bind _) = _
        rw [e1]
        show ((Ar C [⟨5,x.Op,0⟩]).bind fun y37 => some y37) = _
        rw [RA C _ (by have := t1.len (by omega); omega) (bdI_plain (by simp) rfl)]; rfl
       rw [beqf (by omega),beqf (by omega)]
       rcases h with h | h
       · rw [beqt h]; exact j1
       · rw [beqf (by omega),beqt h]; exact j1
     · have := t1.snoc ⟨5,x.Op,0⟩ (fun n c => by
         have := Ok1.str (e := evOf P nv) (P := []) (Q := []) (o := ⟨n + 1,c,false⟩) ⟨5,x.Op,0⟩ (wdN x.Op) n c (.app _ (by omega)) ⟨rfl,rfl⟩
         rw [hw] at this; exact this) (by simp)
       rw [show j - (i + 1) + 1 = j - i by omega] at this
       exact this
   | bin h0 h1 k =>
     have hk0 := hk
     obtain ⟨m,ts,p1,p2,rfl⟩ := hk.split
     obtain ⟨m',ts',p3,p4,rfl⟩ := p2.split
     cases p4
     have kid := Hw hl hx (.bin h0 h1 k) hk0 1 (by simp)
     have l1 := p1.le.2.1 (by simp); have l2 := p3.le.2.1 (by simp)
     obtain ⟨C,e1,t1⟩ := Iu hl fuel (i + 1) m p1 (by omega) (fun p a b => hn p (by omega) (by omega))
     obtain ⟨D,e2,t2⟩ := Iu hl fuel m j p3 (by omega) (fun p a b => hn p (by omega) b)
     have lc := t1.len (by omega); have ld := t2.len (by omega)
     have hk : m - (i + 1) + (j - m) + 1 = j - i := by omega
     have hw : wdN x.Op = 2 := by unfold wdN; rw [if_neg (by omega),if_pos ⟨h0,h1⟩]
     rw [beqf (by omega),beqf (by omega),beqf (show ¬ x.Op = 3 by omega),beqf (show ¬ x.Op = 4 by omega)]
     show ∃ C,BQ (AN fuel) l P i x false = some C ∧ _
     unfold BQ
     rw [w64s (by omega)]
     show ∃ C,((AN fuel l P ((i + 1 : Nat) : Int)).bind _) = some C ∧ _
     rw [e1]
     show ∃ C',((AD l i ((1 : Nat) : Int)).bind _) = some C' ∧ _
     rw [kid]
     show ∃ C',((AN fuel l P (m : Int)).bind _) = some C' ∧ _
     rw [e2]
     have r := fun b => Ss (AN fuel) t1 t2 (by omega) x hw b
     rw [hk] at r
     show ∃ C',cond (x.Op != 16) (CS (AN fuel) x C D (x.Op != 17)) (CS (AN fuel) x C D false) = some C' ∧ _
     cases x.Op != 16
     · exact r false
     · exact r (x.Op != 17)
theorem GV {l : List Aa} {P : Ah} {nv : Nat} (hl : l.length ≤ 3000) (c : Cls) (ht : GD c = true) (i j : Nat) (hp : Pcs l [c] i j [i]) (hn : ∀ p,i ≤ p → p < j → NdF l P nv p) : ∃ C,AO l P i = some C ∧ TermC (evOf P nv) C (j - i) := by
 have hij := hp.le.2.1 (by simp)
 obtain ⟨x,kc,ks,hx,hs,hk,_⟩ := hp.at_
 have nx : nd l i = x := JT hx
 have term : x.Op ≠ 33 → c = .E → ∃ C,AO l P i = some C ∧ TermC (evOf P nv) C (j - i) := by
  intro h33 hc
  subst hc
  obtain ⟨C,e1,t1⟩ := Iu hl 4000 i j hp (by omega) hn
  refine ⟨C,?_,t1⟩
  unfold AO
  rw [lAtn,hx]
  show cond (x.Op == 33) _ ((Be l P i).bind fun y12 => some y12) = _
  rw [beqf h33,show Be l P i = some C from e1]; rfl
 have chan : x.Op = 33 → (x.Kids = 0 ∨ ∃ m,Pcs l [.E] (i + 1) j [m]) → ((x.Kids = 0) ∨ x.Kids = 1) → ∃ C,AO l P i = some C ∧ TermC (evOf P nv) C (j - i) := by
  intro h33 hkid hk01
  obtain ⟨v,ch,v1,v2,v3,v4⟩ := (hn i (by omega) (by omega)).ref (by rw [nx]; exact h33)
  rw [nx] at v4
  have hmem : ch ∈ P.Chans := OJ v2
  unfold AO HN
  rw [lAtn,hx]
  show ∃ C,cond (x.Op == 33) (((lAt P.Nums i).bind _).bind fun y10 => some y10) _ = some C ∧ _
  rw [beqt h33,v1]
  show ∃ C,(((lAt P.Chans v).bind _).bind fun y10 => some y10) = some C ∧ _
  rw [v2]
  show ∃ C,Option.bind (cond (ch.Size == 0) ((Co 9 ch.Base 0).bind fun y10 => some y10) _) (fun y10 => some y10) = some C ∧ _
  by_cases h0 : ch.Size = 0
  · rw [beqt h0]
    refine ⟨[⟨9,ch.Base,0⟩],rfl,fun n c hn' => ⟨[(⟨9,ch.Base,0⟩,⟨n,c,false⟩)],rfl,by simp; omega,Frag.one (.str _ 0 n c (.chan _ _ ⟨ch,hmem,rfl,h0⟩) ⟨rfl,rfl⟩) (by show n ≤ 100000; omega),rfl⟩⟩
  · rw [beqf h0]
    have hk1 : x.Kids ≠ 0 := fun h => h0 (v4.2 h)
    rcases hkid with hkid | ⟨m,hkid⟩
    · exact absurd hkid hk1
    obtain ⟨_,_,_,_,_,_,hm⟩ := hkid.at_
    cases hm
    obtain ⟨C,e1,t1⟩ := Iu hl 4000 (i + 1) j hkid (by omega) (fun p a b => hn p (by omega) b)
    have hlc := t1.len (by omega)
    refine ⟨jn C [⟨9,ch.Base,ch.Size⟩],?_,?_⟩
    · rw [w64s (by omega)]
      show ((Be l P ((i + 1 : Nat) : Int)).bind _).bind _ = _
      rw [bnd (show Be l P ((i + 1 : Nat) : Int) = some C from e1),bnd (show Co 9 ch.Base ch.Size = some [⟨9,ch.Base,ch.Size⟩] from rfl),bnd (QN C ⟨9,ch.Base,ch.Size⟩ (by omega) (bdI_plain (by simp) rfl))]; rfl
    · have := t1.snoc ⟨9,ch.Base,ch.Size⟩ (fun n c => by
        have := Ok1.str (e := evOf P nv) (P := []) (Q := []) (o := ⟨n + 1,c,false⟩) ⟨9,ch.Base,ch.Size⟩ (if 0 < ch.Size then 1 else 0) n c (.chan _ _ ⟨ch,hmem,rfl,rfl⟩) ⟨rfl,rfl⟩
        rw [if_pos (by omega)] at this; exact this) (by simp)
      have hij1 := hkid.le.2.1 (by simp)
      rw [show j - (i + 1) + 1 = j - i by omega] at this
      exact this
 cases hs with
 | num h k => exact term (by omega) rfl
 | name h k => exact term (by omega) rfl
 | un h k => exact term (by omega) rfl
 | bin h0 h1 k => exact term (by omega) rfl
 | ref0 h k => exact chan h (.inl k) (.inl k)
 | ref1 h k =>
   obtain ⟨j',ts,p1,p2,rfl⟩ := hk.split
   cases p2
   exact chan h (.inr ⟨_,p1⟩) (.inr k)
 | _ => cases ht
end Go.Ab
end
section
namespace Go.Ab
set_option linter.unusedVariables false
structure RowC (e : Ev) (C : List Ac) (m k : Nat) : Prop where
 le : m ≤ k
 ok : ∀ (n : Nat) (c : Bool),n + k ≤ 90000 → ∃ M,C = absL 0 M ∧ M.length ≤ 5 * k ∧ Frag e M ⟨n,c,false⟩ ⟨n + m,c,false⟩ ∧ mkM M = []
theorem RowC.nil (e : Ev) : RowC e [] 0 0 := ⟨Nat.le_refl _,fun n c _ => ⟨[],rfl,by simp,Frag.nil e _,rfl⟩⟩
theorem RowC.len {e : Ev} {C : List Ac} {m k : Nat} (h : RowC e C m k) (hk : k ≤ 5000) : C.length ≤ 5 * k := by
 obtain ⟨M,rfl,h2,_⟩ := h.ok 0 false (by omega)
 rw [BK]; exact h2
theorem RowC.bd {e : Ev} {C : List Ac} {m k : Nat} (h : RowC e C m k) (hk : k ≤ 5000) : ∀ x ∈ C,BdI x := by
 obtain ⟨M,rfl,h2,h3,_⟩ := h.ok 0 false (by omega)
 exact absL_bd M 0 (h3.rb (by omega)).bd (by omega) (by omega)
theorem RowC.app {e : Ev} {C D : List Ac} {m k k' : Nat} (h : RowC e C m k) (h' : TermC e D k') (hk : 1 ≤ k') : RowC e (jn C D) (m + 1) (k + k') := ⟨by have := h.le; omega,fun n c hn => by
 have := h.le
 obtain ⟨M,a,b,d,q⟩ := h.ok n c (by omega)
 obtain ⟨M',a',b',d',q'⟩ := h' (n + m) c (by omega)
 exact ⟨M ++ M',by rw [a,a',MV],by simp; omega,d.app d',by rw [D9,q,q']; rfl⟩⟩
theorem TermC.row {e : Ev} {D : List Ac} {k : Nat} (h : TermC e D k) (hk : 1 ≤ k) : RowC e D 1 k := ⟨hk,h⟩
theorem TL {e : Ev} (A C : List Ac) (m k : Nat) (h : RowC e C m k) (hk : k ≤ 5000) (hA : A.length ≤ 100000) : Ar A C = some (jn A C) := KU A C hA (by have := h.len hk; omega) (h.bd hk)
theorem PS {l : List Aa} {P : Ah} {nv : Nat} (hl : l.length ≤ 3000) {cs : List Cls} {i k : Nat} {ss : List Nat} (h : Pcs l cs i k ss) : (∀ c ∈ cs,GD c = true) → (∀ p,i ≤ p → p < k → NdF l P nv p) → ∀ (ks : List Nat) (q : Nat) (acc : List Ac) (m kk : Nat),ks.drop q = ss → q ≤ ks.length → RowC (evOf P nv) acc m kk → kk + (k - i) ≤ 5000 → q ≤ kk →
    ∃ C,Loop (fun s : (Int × (List Ac)) => Cv l P (DK ks) s.1 s.2) ((q : Int),acc) = some C ∧ RowC (evOf P nv) C (m + cs.length) (kk + (k - i)) := by
 induction h with
 | nil i =>
   intro _ _ ks q acc m kk hd hq hr hb hq5
   have : ks.length ≤ q := by simpa using hd
   refine ⟨acc,Loop_inr ?_,by simpa using hr⟩
   show Cv l P (DK ks) q acc = _
   unfold Cv
   rw [dcf (by simp; omega)]; rfl
 | cons c cs i j k x kc ks' ss hx hs hk hr ih1 ih2 =>
   intro hc hn ks q acc m kk hd hq hrow hb hq5
   have hp := Pcs.mk1 hx hs hk
   have l1 := hp.le.2.1 (by simp); have l2 := hr.le.1
   have hql : q < ks.length := by
    rcases Nat.lt_or_ge q ks.length with h | h
    · exact h
    · rw [List.drop_eq_nil_of_le h] at hd; cases hd
   rw [List.drop_eq_getElem_cons hql] at hd
   injection hd with hd1 hd2
   obtain ⟨D,e1,t1⟩ := GV hl c (hc c (by simp)) i j hp (fun p a b => hn p a (by omega))
   have hlen := hrow.len (by omega)
   obtain ⟨C,e2,r2⟩ := ih2 (fun d hd => hc d (by simp [hd])) (fun p a b => hn p (by omega) b) ks (q + 1) (jn acc D) (m + 1) (kk + (j - i)) hd2 (by omega) (hrow.app t1 (by omega)) (by omega) (by omega)
   refine ⟨C,?_,?_⟩
   · have st : Cv l P (DK ks) q acc = some (.inl (((q + 1 : Nat) : Int),jn acc D)) := by
       unfold Cv
       rw [dct (by simp; omega),Gw (by simpa using hql)]
       have : (DK ks)[q]'(by simpa using hql) = (i : Int) := by simp [hd1]
       rw [this,bnd rfl,bnd e1,bnd (P0 acc D _ t1 (by omega) (by omega)),w64s (by omega)]; rfl
     rw [Loop_inl st]; exact e2
   · rw [show m + (c :: cs).length = m + 1 + cs.length by simp; omega,show kk + (k - i) = kk + (j - i) + (k - j) by omega]
     exact r2
theorem PU {l : List Aa} {P : Ah} {nv : Nat} (hl : l.length ≤ 3000) {c : Cls} {kc : List Cls} {i j : Nat} {x : Aa} {ks : List Nat} (hx : l[i]? = some x) (hs : Fd x c kc) (hk : Pcs l kc (i + 1) j ks) (ht : ∀ c ∈ kc,GD c = true) (hn : ∀ p,i + 1 ≤ p → p < j → NdF l P nv p) (hj : j ≤ l.length) : ∃ C,AG l P i = some C ∧ RowC (evOf P nv) C kc.length (j - (i + 1)) := by
 obtain ⟨C,e1,r1⟩ := PS hl hk ht hn ks 0 [] 0 0 rfl (by omega) (RowC.nil _) (by omega) (by omega)
 refine ⟨C,?_,by simpa using r1⟩
 unfold AG
 rw [bnd (J5 hl hx hs hk)]
 exact e1
structure HdC (e : Ev) (f : Int → List An) (len : Nat) : Prop where
 flen : ∀ d,(f d).length = len
 pos : 1 ≤ len
 marks : ∀ d,mkM (f d) = []
 wf : ∀ (d : Int) (P Q : List An) (o : Sp),hd Q o = ⟨0,true,false⟩ → Fw Q o d (fun t => t = S0) → WF e P (f d) Q o
 beg : ∀ (d : Int) (o : Sp),hd (f d) o = ⟨0,true,false⟩
theorem Tw {e : Ev} {d : Int} {x : Ac} {w : Nat} (h : Chs e d x w) : x.Op ≠ 1 := by cases h <;> simp
theorem HdC.own {e : Ev} {C : List Ac} {m k : Nat} (h : RowC e C m k) (hk : k ≤ 5000) (x : Int → Ac) (hx : ∀ d,Chs e d (x d) m) (ha : ∀ q d : Int,absI q (x d) = x (d + q)) : ∃ f len,HdC e f len ∧ len = C.length + 1 ∧ ∀ d,absL 0 (f (d - C.length)) = C ++ [x d] := by
 obtain ⟨M,a,b,d,q⟩ := h.ok 0 true (by omega)
 have la : C.length = M.length := by rw [a,BK]
 rw [Nat.zero_add] at d
 refine ⟨fun z => M ++ [(x z,⟨m,true,false⟩)],M.length + 1,⟨fun z => by simp,by omega,fun z => ?_,fun z P Q o h1 h2 => ?_,fun z o => ?_⟩,by omega,fun z => ?_⟩
 · rw [D9,q,IS _ (Tw (hx z))]; rfl
 · refine WF.app M _ P Q o (d.at P _ o rfl) ⟨⟨.chs _ m z (hx z) ⟨by rw [List.nil_append,h1],by rw [List.nil_append,h1]⟩ h2,by have := h.le; show m ≤ 100000; omega⟩,trivial⟩
 · show hd (M ++ _) o = _
   rw [JS]; exact d.beg
 · show absL 0 (M ++ [(x (z - C.length),_)]) = _
   rw [← K9,← a,ha,la]
   simp
theorem HdC.guard {e : Ev} {C : List Ac} {k : Nat} (h : TermC e C k) (hk : k ≤ 5000) {f : Int → List An} {len : Nat} (hf : HdC e f len) : ∃ g,HdC e g (C.length + 1 + len) ∧ ∀ d,absL 0 (g d) = (C ++ [⟨7,(C.length : Int) + 1 + len,0⟩]) ++ absL ((C.length + 1 : Nat) : Int) (f d) := by
 obtain ⟨M,a,b,d,q⟩ := h 0 true (by omega)
 have la : C.length = M.length := by rw [a,BK]
 refine ⟨fun z => M ++ ((⟨7,(len : Int) + 1,0⟩,⟨1,true,false⟩) :: f z),⟨fun z => ?_,by omega,fun z => ?_,fun z P Q o h1 h2 => ?_,fun z o => ?_⟩,fun z => ?_⟩
 · have := hf.flen z
   simp; omega
 · rw [D9,q,Je _ _ (by simp),hf.marks]; rfl
 · have hb : hd (f z ++ Q) o = ⟨0,true,false⟩ := by rw [JS]; exact hf.beg z _
   refine WF.app M _ P Q o (d.at P _ o rfl) ⟨⟨.zero 7 _ 0 true (.inl rfl) ⟨by rw [hb],by rw [hb]⟩ ⟨f z,Q,rfl,by rw [hf.flen z],by rw [h1]; exact ⟨rfl,rfl⟩⟩,by show 1 ≤ 100000; omega⟩,hf.wf z _ Q o h1 h2⟩
 · show hd (M ++ _) o = _
   rw [JS]; exact d.beg
 · show absL 0 (M ++ ((⟨7,(len : Int) + 1,0⟩,⟨1,true,false⟩) :: f z)) = _
   rw [IL,← a,List.append_assoc]
   congr 1
   show absI (0 + (M.length : Int)) ⟨7,(len : Int) + 1,0⟩ :: absL (0 + (M.length : Int) + 1) (f z) = _
   rw [la,show (0 : Int) + (M.length : Int) + 1 = ((M.length + 1 : Nat) : Int) by omega]
   show (⟨7,(len : Int) + 1 + (0 + (M.length : Int)),0⟩ : Ac) :: _ = _
   rw [show (len : Int) + 1 + (0 + (M.length : Int)) = (M.length : Int) + 1 + len by omega]
   rfl
theorem Pb {α : Type} (C : List α) (x y : α) : List.set (C ++ [x]) C.length y = C ++ [y] := by
 rw [List.set_append_right _ _ (Nat.le_refl _)]
 simp
theorem Q7 {α : Type} (C : List α) (x : α) : lAt (C ++ [x]) (C.length : Int) = some x := by
 rw [lAtn]; simp
theorem Ni {l : List Aa} {P : Ah} {nv : Nat} (hl : l.length ≤ 3000) (i : Nat) (y : Aa) {e : Ev} (he : e = evOf P nv) {C : List Ac} {m k : Nat} (h : RowC e C m k) (hk : k ≤ 3000) (x : Int → Ac) (hx : ∀ d,Chs e d (x d) m) (ha : ∀ q d : Int,absI q (x d) = x (d + q)) (hb : ∀ d,(-500000 ≤ d ∧ d ≤ 500000) → BdI (x d))
    (hset : ∀ d n : Int,(-200000 ≤ d ∧ d ≤ 200000) → (0 ≤ n ∧ n ≤ 100000) → (cond (y.Op == 34) (⟨(x d).Op,(x d).A,w64 ((x d).B - n)⟩ : Ac) ⟨(x d).Op,w64 ((x d).A - n),(x d).B⟩) = x (d - n))
    (kg : Nat) (hkg : kg ≤ 3000) (hN : y.N = 0 ∨ (y.N = 1 ∧ i + 1 < l.length ∧ ∃ G,AO l P ((i + 1 : Nat) : Int) = some G ∧ TermC e G kg)) :
    ∃ f len,HdC e f len ∧ len ≤ 5 * (k + kg) + 2 ∧ ∀ at_ begin : Nat,at_ ≤ 100000 → begin ≤ 100000 → B5 l P i at_ y (C ++ [x ((begin : Int) - at_)]) = some (absL at_ (f ((begin : Int) - at_ - ((len : Int) - 1)))) := by
 have lc := h.len (by omega)
 have bdc := h.bd (by omega)
 obtain ⟨f,len,hf,hlen,hfa⟩ := HdC.own h (by omega) x hx ha
 rcases hN with h0 | ⟨h1,hi1,G,eg,tg⟩
 · refine ⟨f,len,hf,by omega,fun at_ begin h1 h2 => ?_⟩
   unfold B5
   rw [beqt h0]
   show (Ch _ _).bind _ = _
   have e1 := hfa ((begin : Int) - at_)
   rw [bnd (Nd (C ++ [x ((begin : Int) - at_)]) (by simp; omega) at_ (by omega) (by omega) (fun z hz => ?_)),← e1,Ji,hlen]
   · simp
   · rcases List.mem_append.mp hz with hz | hz
     · exact bdc z hz
     · simp at hz; subst hz; exact hb _ (by omega)
 · obtain ⟨g,hg,hga⟩ := HdC.guard tg (by omega) hf
   have lg := tg.len (by omega)
   refine ⟨g,_,hg,by omega,fun at_ begin h3 h4 => ?_⟩
   have w1 : w64 (((C ++ [x ((begin : Int) - at_)]).length : Int) - 1) = C.length := by
    rw [List.length_append,List.length_singleton,w64i (by omega) (by omega)]; omega
   have w2 : w64 ((G.length : Int) + 1) = (G.length : Int) + 1 := w64i (by omega) (by omega)
   have w3 : w64 ((G.length : Int) + 1 + ((C ++ [x ((begin : Int) - at_ - ((G.length : Int) + 1))]).length : Int)) = (G.length : Int) + 1 + len := by
    rw [List.length_append,List.length_singleton,w64i (by omega) (by omega),hlen]
   have j3 : CQ at_ G (C ++ [x ((begin : Int) - at_ - ((G.length : Int) + 1))]) = some (absL at_ (g ((begin : Int) - at_ - (((G.length + 1 + len : Nat) : Int) - 1)))) := by
    unfold CQ
    rw [w2,w3,JF (by rw [List.length_singleton]; omega)]
    have bo : ∀ z ∈ C ++ [x ((begin : Int) - at_ - ((G.length : Int) + 1))],BdI z := by
     intro z hz
     rcases List.mem_append.mp hz with hz | hz
     · exact bdc z hz
     · simp at hz; subst hz; exact hb _ (by omega)
    have e2 := hfa ((begin : Int) - at_ - ((G.length : Int) + 1))
    have e3 := hga ((begin : Int) - at_ - ((G.length : Int) + 1) - C.length)
    have ej : A1 (G ++ [(⟨7,(G.length : Int) + 1 + len,0⟩ : Ac)]) (C ++ [x ((begin : Int) - at_ - ((G.length : Int) + 1))]) = some (absL 0 (g ((begin : Int) - at_ - ((G.length : Int) + 1) - C.length))) := by
     have := KU (G ++ [(⟨7,(G.length : Int) + 1 + len,0⟩ : Ac)]) (C ++ [x ((begin : Int) - at_ - ((G.length : Int) + 1))]) (by simp; omega) (by simp; omega) bo
     rw [e3,← e2,Ji] at *
     rw [show (0 : Int) + ((G ++ [(⟨7,(G.length : Int) + 1 + len,0⟩ : Ac)]).length : Int) = ((G.length + 1 : Nat) : Int) by simp] at this
     exact this
    have ed : (begin : Int) - at_ - (((G.length + 1 + len : Nat) : Int) - 1) = (begin : Int) - at_ - ((G.length : Int) + 1) - C.length := by omega
    rw [bnd ej,ed]
    have hgl := hg.flen ((begin : Int) - at_ - ((G.length : Int) + 1) - C.length)
    have bg : ∀ z ∈ absL 0 (g ((begin : Int) - at_ - ((G.length : Int) + 1) - C.length)),BdI z := by
     rw [e3]
     intro z hz
     rcases List.mem_append.mp hz with hz | hz
     · rcases List.mem_append.mp hz with hz | hz
       · exact tg.bd (by omega) z hz
       · simp at hz; subst hz
         exact ⟨fun h => (by cases h),fun _ => by show -1000000 ≤ (G.length : Int) + 1 + len ∧ (G.length : Int) + 1 + len ≤ 1000000; omega⟩
     · have e4 : absL ((G.length + 1 : Nat) : Int) (f ((begin : Int) - at_ - ((G.length : Int) + 1) - C.length)) = (absL 0 (f ((begin : Int) - at_ - ((G.length : Int) + 1) - C.length))).map (absI ((G.length + 1 : Nat) : Int)) := by rw [Ji]; simp
       obtain ⟨M,a,b,d,_⟩ := h.ok 0 true (by omega)
       rw [e4,e2,List.map_append] at hz
       rcases List.mem_append.mp hz with hz | hz
       · rw [a,Ji] at hz
         exact absL_bd M _ (d.rb (by omega)).bd (by omega) (by omega) z hz
       · simp at hz; subst hz
         rw [ha]; exact hb _ (by omega)
    rw [bnd (QG _ (by rw [BK,hgl]; omega) at_ (by omega) (by omega) bg),Ji]
    simp
   have hs := hset ((begin : Int) - at_) ((G.length : Int) + 1) (by omega) (by omega)
   unfold B5
   rw [beqf (by omega),w1]
   show ((AO l P (w64 ((i : Int) + 1))).bind _) = _
   rw [w64s (by omega),bnd eg,Q7,w2]
   cases h34 : (y.Op == 34) with
   | true =>
     rw [h34] at hs
     show CQ at_ G (List.set _ (Int.toNat (C.length : Int)) (⟨(x ((begin : Int) - at_)).Op,(x ((begin : Int) - at_)).A,w64 ((x ((begin : Int) - at_)).B - ((G.length : Int) + 1))⟩ : Ac)) = _
     rw [show (⟨(x ((begin : Int) - at_)).Op,(x ((begin : Int) - at_)).A,w64 ((x ((begin : Int) - at_)).B - ((G.length : Int) + 1))⟩ : Ac) = _ from hs,show Int.toNat (C.length : Int) = C.length by omega,Pb]
     exact j3
   | false =>
     rw [h34] at hs
     show CQ at_ G (List.set _ (Int.toNat (C.length : Int)) (⟨(x ((begin : Int) - at_)).Op,w64 ((x ((begin : Int) - at_)).A - ((G.length : Int) + 1)),(x ((begin : Int) - at_)).B⟩ : Ac)) = _
     rw [show (⟨(x ((begin : Int) - at_)).Op,w64 ((x ((begin : Int) - at_)).A - ((G.length : Int) + 1)),(x ((begin : Int) - at_)).B⟩ : Ac) = _ from hs,show Int.toNat (C.length : Int) = C.length by omega,Pb]
     exact j3
def isSt (x : Aa) : Bool := decide (18 ≤ x.Op) && decide (x.Op ≤ 31)
def cntS (l : List Aa) (p : Nat) : Nat := (l.take p).countP isSt
theorem IY (l : List Aa) (p : Nat) (x : Aa) (h : l[p]? = some x) : cntS l (p + 1) = cntS l p + if isSt x = true then 1 else 0 := by
 unfold cntS
 rw [List.take_add_one,h,List.countP_append]
 simp [List.countP_cons]
def rng (a b : Nat) : List Int := (List.range' a (b - a)).map fun n : Nat => (n : Int)
theorem M8 (a : Nat) : rng a a = [] := by unfold rng; simp
theorem Lz (a : Nat) : rng a (a + 1) = [(a : Int)] := by unfold rng; simp
theorem J1 {a b c : Nat} (h : a ≤ b) (h' : b ≤ c) : rng a b ++ rng b c = rng a c := by
 unfold rng
 rw [← List.map_append]
 congr 1
 have := List.range'_append_1 (s := a) (m := b - a) (n := c - b)
 rw [show a + (b - a) = b by omega] at this
 rw [this]
 congr 1
 omega
theorem Q0 (l : List Aa) (i : Nat) : ∀ d,cntS l i ≤ cntS l (i + d)
 | 0 => Nat.le_refl _
 | d + 1 => by
   have := Q0 l i d
   rcases Nat.lt_or_ge (i + d) l.length with h | h
   · have := IY l (i + d) l[i + d] (List.getElem?_eq_getElem h)
     rw [show i + (d + 1) = i + d + 1 by omega]; omega
   · unfold cntS at *
     rw [List.take_of_length_le (i := i + (d + 1)) (by omega)]
     rw [List.take_of_length_le (i := i + d) (by omega)] at this
     exact this
theorem HG (l : List Aa) {i j : Nat} (h : i ≤ j) : cntS l i ≤ cntS l j := by
 have := Q0 l i (j - i); rwa [show i + (j - i) = j by omega] at this
theorem Mw (l : List Aa) (i : Nat) : ∀ d,i + d ≤ l.length → (∀ p,i ≤ p → p < i + d → isSt (nd l p) = false) → cntS l (i + d) = cntS l i
 | 0,_,_ => rfl
 | d + 1,h,hs => by
   have h1 := Mw l i d (by omega) (fun p a b => hs p a (by omega))
   have h2 := IY l (i + d) (nd l (i + d)) (nd_at (by omega))
   rw [hs (i + d) (by omega) (by omega)] at h2
   rw [show i + (d + 1) = i + d + 1 by omega,h2,h1]; rfl
theorem FC {l : List Aa} {cs : List Cls} {i k : Nat} {ss : List Nat} (h : Pcs l cs i k ss) (ht : ∀ c ∈ cs,GD c = true) (hk : k ≤ l.length) : cntS l k = cntS l i := by
 have hle := h.le.1
 have := Mw l i (k - i) (by omega) (fun p a b => by
  have hp := (h.inner (fun c hc => by have := ht c hc; cases c <;> first | rfl | cases this) p (nd l p) a (by omega) (nd_at (by omega))).2 ht
  unfold isSt
  rcases hp with hp | hp
  · rw [dcf (by omega)]; rfl
  · rw [dcf (show ¬ (nd l p).Op ≤ 31 by omega)]; simp)
 rwa [show i + (k - i) = k by omega] at this
end Go.Ab
end
section
namespace Go.Ab
set_option linter.unusedVariables false
structure TE (l : List Aa) (P : Ah) (nv i j : Nat) : Prop where
 h : ∃ (b : Nat) (f : Int → List An) (len : Nat),Pcs l [.B] b j [b] ∧ i < b ∧ AD l i (w64 ((nd l i).Kids - 1)) = some (b : Int) ∧ HdC (evOf P nv) f len ∧ len + 1 ≤ 5 * (b - i) ∧ cntS l b = cntS l i ∧
   ∀ at_ begin : Nat,at_ ≤ 100000 → begin ≤ 100000 → Bq l P i at_ begin = some (absL at_ (f ((begin : Int) - at_ - ((len : Int) - 1))))
theorem bdA {op d b : Int} (ho : op ≠ 19) (h0 : -500000 ≤ d ∧ d ≤ 500000) : BdI ⟨op,d,b⟩ := ⟨fun h => absurd h ho,fun _ => by show -1000000 ≤ d ∧ d ≤ 1000000; omega⟩
section
variable {l : List Aa} {P : Ah} {nv : Nat} (hl : l.length ≤ 3000) {i : Nat} {x : Aa} (hx : l[i]? = some x)
include hl hx
theorem Sc {C : List Ac} {k kg : Nat} (h : RowC (evOf P nv) C 1 k) (hk : k ≤ 3000) (hkg : kg ≤ 3000) (ho : x.Op = 34) (hnf : NdF l P nv i) (a : Nat) (hkid : AD l i x.N = some (a : Int)) (hc : AO l P a = some C) (hN : x.N = 0 ∨ (x.N = 1 ∧ i + 1 < l.length ∧ ∃ G,AO l P ((i + 1 : Nat) : Int) = some G ∧ TermC (evOf P nv) G kg)) :
    ∃ f len,HdC (evOf P nv) f len ∧ len ≤ 5 * (k + kg) + 2 ∧ ∀ at_ begin : Nat,at_ ≤ 100000 → begin ≤ 100000 → Bq l P i at_ begin = some (absL at_ (f ((begin : Int) - at_ - ((len : Int) - 1)))) := by
 have nx : nd l i = x := JT hx
 obtain ⟨v,v1,v2,v3⟩ := hnf.var (.inl (by rw [nx]; unfold isV; omega))
 have lc := h.len (by omega)
 obtain ⟨f,len,h1,h2,h3⟩ := Ni hl i x rfl h hk (fun d => ⟨19,v,d⟩) (fun d => .recv v v2 v3) (fun q d => rfl) (fun d hd => ⟨fun _ => by show -1000000 ≤ d ∧ d ≤ 1000000; omega,fun h => by cases h⟩) (fun d n hd hn => by rw [beqt ho]; show (⟨19,v,w64 (d - n)⟩ : Ac) = _; rw [w64i (by omega) (by omega)]) kg hkg hN
 refine ⟨f,len,h1,h2,fun at_ begin a1 a2 => ?_⟩
 rw [← h3 at_ begin a1 a2]
 unfold Bq
 rw [bnd (show lAt l (i : Int) = some x by rw [lAtn]; exact hx),beqt ho]
 show (AD l i x.N).bind _ = _
 rw [bnd hkid,bnd hc]
 unfold B6
 rw [beqt ho]
 show (lAt P.Nums i).bind _ = _
 rw [bnd v1,JF (by simp; omega),w64i (by omega) (by omega)]
theorem Sb {C D : List Ac} {k k' kg : Nat} (h : TermC (evOf P nv) C k) (h' : TermC (evOf P nv) D k') (hk0 : 1 ≤ k ∧ 1 ≤ k') (hk : k + k' ≤ 3000) (hkg : kg ≤ 3000) (ho : x.Op = 35) (n : Nat) (hn : x.N = n) (hn1 : n ≤ 1) (a a' : Nat) (hkid : AD l i (n : Int) = some (a : Int)) (hkid' : AD l i ((n + 1 : Nat) : Int) = some (a' : Int)) (hc : AO l P a = some C) (hc' : AO l P a' = some D) (hN : x.N = 0 ∨ (x.N = 1 ∧ i + 1 < l.length ∧ ∃ G,AO l P ((i + 1 : Nat) : Int) = some G ∧ TermC (evOf P nv) G kg)) :
    ∃ f len,HdC (evOf P nv) f len ∧ len ≤ 5 * (k + k' + kg) + 2 ∧ ∀ at_ begin : Nat,at_ ≤ 100000 → begin ≤ 100000 → Bq l P i at_ begin = some (absL at_ (f ((begin : Int) - at_ - ((len : Int) - 1)))) := by
 have r := (h.row hk0.1).app h' hk0.2
 have lc := r.len (by omega)
 have lc1 := h.len (by omega)
 obtain ⟨f,len,h1,h2,h3⟩ := Ni hl i x rfl r hk (fun d => ⟨20,d,0⟩) (fun d => .send) (fun q d => rfl) (fun d hd => bdA (by omega) hd) (fun d n hd hn => by rw [beqf (by omega)]; show (⟨20,w64 (d - n),0⟩ : Ac) = _; rw [w64i (by omega) (by omega)]) kg hkg hN
 refine ⟨f,len,h1,h2,fun at_ begin a1 a2 => ?_⟩
 rw [← h3 at_ begin a1 a2]
 unfold Bq
 rw [bnd (show lAt l (i : Int) = some x by rw [lAtn]; exact hx),beqf (by omega),beqt ho]
 show (AD l i x.N).bind _ = _
 rw [hn,bnd hkid,bnd hc]
 unfold B6
 rw [beqf (by omega),beqt ho]
 show (AD l i (w64 (x.N + 1))).bind _ = _
 rw [hn,w64s (by omega),bnd hkid',bnd hc',bnd (P0 C D k' h' (by omega) (by omega)),JF (by simp; omega),w64i (by omega) (by omega)]
theorem Sa {C : List Ac} {k kg : Nat} (h : RowC (evOf P nv) C 1 k) (hk : k ≤ 3000) (hkg : kg ≤ 3000) (ho : x.Op = 36) (a : Nat) (hkid : AD l i x.N = some (a : Int)) (hc : AO l P a = some C) (hN : x.N = 0 ∨ (x.N = 1 ∧ i + 1 < l.length ∧ ∃ G,AO l P ((i + 1 : Nat) : Int) = some G ∧ TermC (evOf P nv) G kg)) :
    ∃ f len,HdC (evOf P nv) f len ∧ len ≤ 5 * (k + kg) + 2 ∧ ∀ at_ begin : Nat,at_ ≤ 100000 → begin ≤ 100000 → Bq l P i at_ begin = some (absL at_ (f ((begin : Int) - at_ - ((len : Int) - 1)))) := by
 have lc := h.len (by omega)
 obtain ⟨f,len,h1,h2,h3⟩ := Ni hl i x rfl h hk (fun d => ⟨21,d,0⟩) (fun d => .after) (fun q d => rfl) (fun d hd => bdA (by omega) hd) (fun d n hd hn => by rw [beqf (by omega)]; show (⟨21,w64 (d - n),0⟩ : Ac) = _; rw [w64i (by omega) (by omega)]) kg hkg hN
 refine ⟨f,len,h1,h2,fun at_ begin a1 a2 => ?_⟩
 rw [← h3 at_ begin a1 a2]
 unfold Bq
 rw [bnd (show lAt l (i : Int) = some x by rw [lAtn]; exact hx),beqf (by omega),beqf (by omega),beqt ho]
 show (AD l i x.N).bind _ = _
 rw [bnd hkid,bnd hc]
 unfold B6
 rw [beqf (by omega),beqf (by omega),beqt ho]
 rw [w64i (n := (begin : Int) - at_) (by omega) (by omega)]
 simp only [cond_true,cond_false]
 rw [JF (by simp; omega)]
theorem Tl (ho : x.Op = 37) (h0 : x.N = 0) : ∃ f len,HdC (evOf P nv) f len ∧ len ≤ 2 ∧ ∀ at_ begin : Nat,at_ ≤ 100000 → begin ≤ 100000 → Bq l P i at_ begin = some (absL at_ (f ((begin : Int) - at_ - ((len : Int) - 1)))) := by
 obtain ⟨f,len,h1,h2,h3⟩ := Ni (P := P) (nv := nv) hl i x rfl (RowC.nil _) (by omega) (fun d => ⟨22,d,0⟩) (fun d => .els) (fun q d => rfl) (fun d hd => bdA (by omega) hd) (fun d n hd hn => by rw [beqf (by omega)]; show (⟨22,w64 (d - n),0⟩ : Ac) = _; rw [w64i (by omega) (by omega)]) 0 (by omega) (.inl h0)
 refine ⟨f,len,h1,by omega,fun at_ begin a1 a2 => ?_⟩
 rw [← h3 at_ begin a1 a2]
 unfold Bq
 rw [bnd (show lAt l (i : Int) = some x by rw [lAtn]; exact hx),beqf (by omega),beqf (by omega),beqf (by omega)]
 show B6 l P i at_ begin x [] = _
 unfold B6
 rw [beqf (by omega),beqf (by omega),beqf (by omega)]
 rw [w64i (n := (begin : Int) - at_) (by omega) (by omega)]
 simp only [cond_false]
 rw [JF (by simp)]
end
theorem Pcs.three {l : List Aa} {a b c : Cls} {i k : Nat} {ss : List Nat} (h : Pcs l [a,b,c] i k ss) : ∃ m n,Pcs l [a] i m [i] ∧ Pcs l [b] m n [m] ∧ Pcs l [c] n k [n] ∧ ss = [i,m,n] := by
 obtain ⟨m,ts,p1,p2,rfl⟩ := h.split
 obtain ⟨n,ts',p3,p4,rfl⟩ := p2.split
 obtain ⟨n',ts'',p5,p6,rfl⟩ := p4.split
 cases p6
 exact ⟨m,n,p1,p3,p5,rfl⟩
theorem Pcs.two {l : List Aa} {a b : Cls} {i k : Nat} {ss : List Nat} (h : Pcs l [a,b] i k ss) : ∃ m,Pcs l [a] i m [i] ∧ Pcs l [b] m k [m] ∧ ss = [i,m] := by
 obtain ⟨m,ts,p1,p2,rfl⟩ := h.split
 obtain ⟨n,ts',p3,p4,rfl⟩ := p2.split
 cases p4
 exact ⟨m,p1,p3,rfl⟩
theorem QR {l : List Aa} {P : Ah} {nv : Nat} (hl : l.length ≤ 3000) (i j : Nat) (hp : Pcs l [.C] i j [i]) (hn : ∀ p,i ≤ p → p < j → NdF l P nv p) : TE l P nv i j := by
 have hij := hp.le.2.1 (by simp)
 obtain ⟨x,kc,ks,hx,hs,hk,_⟩ := hp.at_
 have nx : nd l i = x := JT hx
 have c0 : 31 < x.Op → cntS l (i + 1) = cntS l i := fun h => by
  have := IY l i x hx
  unfold isSt at this
  rw [dcf (show ¬ x.Op ≤ 31 by omega)] at this
  simpa using this
 have w : ∀ k : Nat,x.Kids = ((k + 1 : Nat) : Int) → k ≤ 10 → w64 ((nd l i).Kids - 1) = (k : Int) := fun k hk h10 => by rw [nx,hk,w64i (by omega) (by omega)]; omega
 cases hs with
 | els h n0 k =>
   obtain ⟨b,ts,p1,p2,rfl⟩ := hk.split
   cases p2
   obtain ⟨f,len,h1,h2,h3⟩ := Tl (P := P) (nv := nv) hl hx h n0
   exact ⟨⟨i + 1,f,len,p1,by omega,by rw [w 0 (by rw [k]; rfl) (by omega)]; exact Hw hl hx (.els h n0 k) hk 0 (by simp),h1,by omega,c0 (by omega),h3⟩⟩
 | onr0 h n0 k =>
   obtain ⟨a,p1,p2,rfl⟩ := hk.two
   have l1 := p1.le.2.1 (by simp)
   have l2 := p2.le.2.1 (by simp)
   obtain ⟨C,e1,t1⟩ := GV hl .R rfl (i + 1) a p1 (fun p a b => hn p (by omega) (by omega))
   obtain ⟨f,len,h1,h2,h3⟩ := Sc hl hx (t1.row (by omega)) (by omega) (kg := 0) (by omega) h (hn i (by omega) (by omega)) (i + 1) (by rw [n0]; exact Hw hl hx (.onr0 h n0 k) hk 0 (by simp)) e1 (.inl n0)
   exact ⟨⟨a,f,len,p2,by omega,by rw [w 1 (by rw [k]; rfl) (by omega)]; exact Hw hl hx (.onr0 h n0 k) hk 1 (by simp),h1,by omega,by rw [FC p1 (by simp [GD]) (by omega),c0 (by omega)],h3⟩⟩
 | onr1 h n0 k =>
   obtain ⟨a,b,p1,p2,p3,rfl⟩ := hk.three
   have l1 := p1.le.2.1 (by simp); have l2 := p2.le.2.1 (by simp); have l3 := p3.le.2.1 (by simp)
   obtain ⟨G,e0,t0⟩ := GV hl .E rfl (i + 1) a p1 (fun p a b => hn p (by omega) (by omega))
   obtain ⟨C,e1,t1⟩ := GV hl .R rfl a b p2 (fun p a b => hn p (by omega) (by omega))
   obtain ⟨f,len,h1,h2,h3⟩ := Sc hl hx (t1.row (by omega)) (by omega) (kg := a - (i + 1)) (by omega) h (hn i (by omega) (by omega)) a (by rw [n0]; exact Hw hl hx (.onr1 h n0 k) hk 1 (by simp)) e1 (.inr ⟨n0,by omega,G,e0,t0⟩)
   exact ⟨⟨b,f,len,p3,by omega,by rw [w 2 (by rw [k]; rfl) (by omega)]; exact Hw hl hx (.onr1 h n0 k) hk 2 (by simp),h1,by omega,by rw [FC p2 (by simp [GD]) (by omega),FC p1 (by simp [GD]) (by omega),c0 (by omega)],h3⟩⟩
 | ons0 h n0 k =>
   obtain ⟨a,b,p1,p2,p3,rfl⟩ := hk.three
   have l1 := p1.le.2.1 (by simp); have l2 := p2.le.2.1 (by simp); have l3 := p3.le.2.1 (by simp)
   obtain ⟨C,e0,t0⟩ := GV hl .R rfl (i + 1) a p1 (fun p a b => hn p (by omega) (by omega))
   obtain ⟨D,e1,t1⟩ := GV hl .E rfl a b p2 (fun p a b => hn p (by omega) (by omega))
   obtain ⟨f,len,h1,h2,h3⟩ := Sb hl hx t0 t1 (by omega) (by omega) (kg := 0) (by omega) h 0 n0 (by omega) (i + 1) a (Hw hl hx (.ons0 h n0 k) hk 0 (by simp)) (Hw hl hx (.ons0 h n0 k) hk 1 (by simp)) e0 e1 (.inl n0)
   exact ⟨⟨b,f,len,p3,by omega,by rw [w 2 (by rw [k]; rfl) (by omega)]; exact Hw hl hx (.ons0 h n0 k) hk 2 (by simp),h1,by omega,by rw [FC p2 (by simp [GD]) (by omega),FC p1 (by simp [GD]) (by omega),c0 (by omega)],h3⟩⟩
 | ons1 h n0 k =>
   obtain ⟨m,ts,p0,hk',rfl⟩ := hk.split
   obtain ⟨a,b,p1,p2,p3,rfl⟩ := hk'.three
   have l0 := p0.le.2.1 (by simp); have l1 := p1.le.2.1 (by simp); have l2 := p2.le.2.1 (by simp); have l3 := p3.le.2.1 (by simp)
   obtain ⟨G,eg,tg⟩ := GV hl .E rfl (i + 1) m p0 (fun p a b => hn p (by omega) (by omega))
   obtain ⟨C,e0,t0⟩ := GV hl .R rfl m a p1 (fun p a b => hn p (by omega) (by omega))
   obtain ⟨D,e1,t1⟩ := GV hl .E rfl a b p2 (fun p a b => hn p (by omega) (by omega))
   obtain ⟨f,len,h1,h2,h3⟩ := Sb hl hx t0 t1 (by omega) (by omega) (kg := m - (i + 1)) (by omega) h 1 n0 (by omega) m a (Hw hl hx (.ons1 h n0 k) hk 1 (by simp)) (Hw hl hx (.ons1 h n0 k) hk 2 (by simp)) e0 e1 (.inr ⟨n0,by omega,G,eg,tg⟩)
   exact ⟨⟨b,f,len,p3,by omega,by rw [w 3 (by rw [k]; rfl) (by omega)]; exact Hw hl hx (.ons1 h n0 k) hk 3 (by simp),h1,by omega,by rw [FC p2 (by simp [GD]) (by omega),FC p1 (by simp [GD]) (by omega),FC p0 (by simp [GD]) (by omega),c0 (by omega)],h3⟩⟩
 | aft0 h n0 k =>
   obtain ⟨a,p1,p2,rfl⟩ := hk.two
   have l1 := p1.le.2.1 (by simp)
   have l2 := p2.le.2.1 (by simp)
   obtain ⟨C,e1,t1⟩ := GV hl .E rfl (i + 1) a p1 (fun p a b => hn p (by omega) (by omega))
   obtain ⟨f,len,h1,h2,h3⟩ := Sa hl hx (t1.row (by omega)) (by omega) (kg := 0) (by omega) h (i + 1) (by rw [n0]; exact Hw hl hx (.aft0 h n0 k) hk 0 (by simp)) e1 (.inl n0)
   exact ⟨⟨a,f,len,p2,by omega,by rw [w 1 (by rw [k]; rfl) (by omega)]; exact Hw hl hx (.aft0 h n0 k) hk 1 (by simp),h1,by omega,by rw [FC p1 (by simp [GD]) (by omega),c0 (by omega)],h3⟩⟩
 | aft1 h n0 k =>
   obtain ⟨a,b,p1,p2,p3,rfl⟩ := hk.three
   have l1 := p1.le.2.1 (by simp); have l2 := p2.le.2.1 (by simp); have l3 := p3.le.2.1 (by simp)
   obtain ⟨G,e0,t0⟩ := GV hl .E rfl (i + 1) a p1 (fun p a b => hn p (by omega) (by omega))
   obtain ⟨C,e1,t1⟩ := GV hl .E rfl a b p2 (fun p a b => hn p (by omega) (by omega))
   obtain ⟨f,len,h1,h2,h3⟩ := Sa hl hx (t1.row (by omega)) (by omega) (kg := a - (i + 1)) (by omega) h a (by rw [n0]; exact Hw hl hx (.aft1 h n0 k) hk 1 (by simp)) e1 (.inr ⟨n0,by omega,G,e0,t0⟩)
   exact ⟨⟨b,f,len,p3,by omega,by rw [w 2 (by rw [k]; rfl) (by omega)]; exact Hw hl hx (.aft1 h n0 k) hk 2 (by simp),h1,by omega,by rw [FC p2 (by simp [GD]) (by omega),FC p1 (by simp [GD]) (by omega),c0 (by omega)],h3⟩⟩
end Go.Ab
end
section
namespace Go.Ab
set_option linter.unusedVariables false
def BlkC (l : List Aa) (e : Ev) (C : List Ac) (i j : Nat) : Prop := ∃ M,C = absL 0 M ∧ M.length ≤ 5 * (j - i) ∧ Frag e M S0 S0 ∧ (M = [] ∨ ∃ a r,M = a :: r ∧ a.1.Op = 1) ∧ mkM M = rng (cntS l i) (cntS l j)
structure JL where
 f : Int → List An
 len : Nat
 B : List An
structure TF (l : List Aa) (P : Ah) (e : Ev) (slf : ND) (k : Nat) (d : JL) : Prop where
 node : k < l.length
 kid : ∃ b : Nat,AD l k (w64 ((nd l k).Kids - 1)) = some (b : Int) ∧ slf l P b = some (absL 0 d.B)
 head : ∀ at_ begin : Nat,at_ ≤ 100000 → begin ≤ 100000 → Bq l P k at_ begin = some (absL at_ (d.f ((begin : Int) - at_ - ((d.len : Int) - 1))))
 hd : HdC e d.f d.len
 fr : Frag e d.B S0 S0
def headsL : Int → Int → List JL → List An
 | _,_,[] => []
 | at_,begin,d :: r => d.f (begin - at_ - ((d.len : Int) - 1)) ++ headsL (at_ + d.len) (begin + d.B.length + 1) r
def F3 : List JL → List An
 | [] => []
 | d :: r => d.B ++ ((⟨6,((F3 r).length : Int) + 1,0⟩,S0) :: F3 r)
def sumLen (L : List JL) : Nat := (L.map fun d => d.len).sum
theorem L5 : ∀ L : List JL,(F3 L).length = (L.map fun d => d.B.length + 1).sum
 | [] => rfl
 | d :: r => by
   have := L5 r
   simp only [F3,List.length_append,List.length_cons,List.map_cons,List.sum_cons]
   omega
section
variable {l : List Aa} {P : Ah} {e : Ev} {slf : ND} {ks : List Nat} {L : List JL} (hL : L.length = ks.length) (hF : ∀ (q : Nat) (h : q < ks.length) (h' : q < L.length),TF l P e slf ks[q] L[q]) (hks : ks.length ≤ 3000)
theorem ksAt (ks : List Nat) (q : Nat) (h : q < ks.length) : lAt (DK ks) (q : Int) = some (ks[q] : Int) := by rw [Gw (by simpa using h)]; simp
include hL hF hks
theorem NN (fin : Int) (hfin : fin ≤ 40000) : ∀ (n q : Nat) (X : List An),q + n = ks.length → fin = (X.length : Int) + (F3 (L.drop q)).length → RB (F3 (L.drop q)) →
    Loop (fun s : (Int × (List Ac)) => Cl slf (DK ks) fin (L.map fun d => absL 0 d.B) s.1 s.2) ((q : Int),absL 0 X) = some (absL 0 (X ++ F3 (L.drop q)))
 | 0,q,X,hq,he,hb => by
   have hd : L.drop q = [] := List.drop_eq_nil_of_le (by omega)
   rw [hd] at he ⊢
   refine Loop_inr ?_
   show Cl slf (DK ks) fin _ q (absL 0 X) = _
   unfold Cl
   rw [dcf (by simp; omega)]
   simp [F3]
 | n + 1,q,X,hq,he,hb => by
   have hql : q < ks.length := by omega
   have hqL : q < L.length := by omega
   have hd : L.drop q = L[q] :: L.drop (q + 1) := List.drop_eq_getElem_cons hqL
   rw [hd] at he hb ⊢
   have cf := hF q hql hqL
   have hbl := hb.len
   simp only [F3,List.length_append,List.length_cons] at he hbl
   have rbB : RB L[q].B := cf.fr.rb (by omega)
   have st : Cl slf (DK ks) fin (L.map fun d => absL 0 d.B) q (absL 0 X) = some (.inl (((q + 1 : Nat) : Int),absL 0 (X ++ L[q].B ++ [(⟨6,((F3 (L.drop (q + 1))).length : Int) + 1,0⟩,S0)]))) := by
    unfold Cl
    rw [dct (by simp; omega),Gw (by simpa using hqL)]
    have : (L.map fun d => absL 0 d.B)[q]'(by simpa using hqL) = absL 0 L[q].B := by simp
    rw [this,bnd rfl,bnd (R6 X L[q].B (by omega) rbB),JF (by rw [BK,List.length_append,List.length_singleton]; omega),w64s (by omega),← K9]
    have e2 : absI ((X ++ L[q].B).length : Int) ⟨6,((F3 (L.drop (q + 1))).length : Int) + 1,0⟩ = ⟨6,fin,0⟩ := by
     show (⟨6,((F3 (L.drop (q + 1))).length : Int) + 1 + ((X ++ L[q].B).length : Int),0⟩ : Ac) = _
     rw [List.length_append]
     rw [show ((F3 (L.drop (q + 1))).length : Int) + 1 + ((X.length + L[q].B.length : Nat) : Int) = fin by omega]
    rw [e2]; rfl
   rw [Loop_inl st,NN fin hfin n (q + 1) _ (by omega) (by simp; omega) ⟨by omega,fun a ha => hb.bd a (by simp [F3,ha])⟩]
   simp [F3]
theorem MW (fin : Int) (hfin : fin ≤ 40000) : ∀ (n q : Nat) (X : List An) (begin : Nat),q + n = ks.length → fin = (X.length : Int) + sumLen (L.drop q) + 1 + (F3 L).length → (begin : Int) + ((((L.drop q).map fun d => d.B.length + 1).sum : Nat) : Int) = fin → RB (F3 L) →
    Loop (fun s : (Int × Int × (List Ac)) => Ck slf l P (DK ks) fin (L.map fun d => absL 0 d.B) s.1 s.2.1 s.2.2) ((begin : Int),(q : Int),absL 0 X) = some (absL 0 (X ++ headsL X.length begin (L.drop q) ++ ((⟨23,0,0⟩,⟨0,true,false⟩) :: F3 L)))
 | 0,q,X,begin,hq,he,hbg,hb => by
   have hd : L.drop q = [] := List.drop_eq_nil_of_le (by omega)
   rw [hd] at he hbg ⊢
   simp only [sumLen,List.map_nil,List.sum_nil] at he hbg
   refine Loop_inr ?_
   show Ck slf l P (DK ks) fin _ begin q (absL 0 X) = _
   unfold Ck
   rw [dcf (by simp; omega)]
   have e1 : absL 0 X ++ [(⟨23,0,0⟩ : Ac)] = absL 0 (X ++ [(⟨23,0,0⟩,⟨0,true,false⟩)]) := by rw [← K9]; rfl
   show ((grd _ _).map _) = _
   rw [JF (by rw [BK,List.length_singleton]; omega),e1]
   have := NN hL hF hks fin hfin ks.length 0 (X ++ [((⟨23,0,0⟩ : Ac),(⟨0,true,false⟩ : Sp))]) (by omega) (by simp; omega) (by simpa using hb)
   rw [show ((0 : Nat) : Int) = 0 from rfl] at this
   rw [this]
   simp [headsL]
 | n + 1,q,X,begin,hq,he,hbg,hb => by
   have hql : q < ks.length := by omega
   have hqL : q < L.length := by omega
   have hd : L.drop q = L[q] :: L.drop (q + 1) := List.drop_eq_getElem_cons hqL
   rw [hd] at he hbg ⊢
   have cf := hF q hql hqL
   simp only [sumLen,List.map_cons,List.sum_cons] at he hbg
   have hfl := cf.hd.flen ((begin : Int) - X.length - ((L[q].len : Int) - 1))
   have st : Ck slf l P (DK ks) fin (L.map fun d => absL 0 d.B) begin q (absL 0 X) = some (.inl (((begin + L[q].B.length + 1 : Nat) : Int),((q + 1 : Nat) : Int),absL 0 (X ++ L[q].f ((begin : Int) - X.length - ((L[q].len : Int) - 1))))) := by
    unfold Ck
    rw [dct (by simp; omega),ksAt ks q hql,bnd rfl,BK,bnd (cf.head X.length begin (by omega) (by omega)),JF (by rw [BK,hfl]; omega),Gw (by simpa using hqL)]
    have : (L.map fun d => absL 0 d.B)[q]'(by simpa using hqL) = absL 0 L[q].B := by simp
    rw [this,bnd rfl,BK,w64i (n := (begin : Int) + (L[q].B.length : Int)) (by omega) (by omega),w64i (n := (begin : Int) + (L[q].B.length : Int) + 1) (by omega) (by omega),w64s (by omega)]
    have e1 : absL 0 X ++ absL (X.length : Int) (L[q].f ((begin : Int) - X.length - ((L[q].len : Int) - 1))) = absL 0 (X ++ L[q].f ((begin : Int) - X.length - ((L[q].len : Int) - 1))) := by rw [IL]; simp
    rw [e1,show (begin : Int) + (L[q].B.length : Int) + 1 = ((begin + L[q].B.length + 1 : Nat) : Int) by omega]
    rfl
   rw [Loop_inl st,MW fin hfin n (q + 1) _ (begin + L[q].B.length + 1) (by omega) (by simp only [List.length_append,hfl,sumLen]; omega) (by omega) hb]
   simp only [headsL,List.append_assoc,List.length_append,hfl]
   congr 5
theorem My (i : Nat) (at_ : Nat) (mk : Int) (hst : DM l i = some mk) (hat : at_ = 2 + sumLen L) (hsz : at_ + 1 + (F3 L).length ≤ 40000) (hb : RB (F3 L)) : ∀ (n q : Nat),q + n = ks.length →
    Loop (fun s : (Int × Int × (List (List Ac))) => Cj slf l P i (DK ks) at_ s.1 s.2.1 s.2.2) (((at_ + 1 + ((L.take q).map fun d => d.B.length + 1).sum : Nat) : Int),(q : Int),(L.take q).map fun d => absL 0 d.B) = some (absL 0 ([((⟨1,mk,0⟩ : Ac),S0),(⟨25,0,0⟩,⟨0,false,false⟩)] ++ headsL 2 ((at_ + 1 : Nat) : Int) L ++ ((⟨23,0,0⟩,⟨0,true,false⟩) :: F3 L)))
 | 0,q,hq => by
   have hd : L.take q = L := List.take_of_length_le (by omega)
   rw [hd]
   refine Loop_inr ?_
   show Cj slf l P i (DK ks) at_ _ q _ = _
   unfold Cj
   rw [dcf (by simp; omega)]
   show (Option.bind _ _).map _ = _
   have ej : AF [(⟨1,mk,0⟩ : Ac)] [⟨25,0,0⟩] = some (absL 0 [((⟨1,mk,0⟩ : Ac),S0),(⟨25,0,0⟩,⟨0,false,false⟩)]) := by
    have := R5 [((⟨1,mk,0⟩ : Ac),S0)] [((⟨25,0,0⟩ : Ac),⟨0,false,false⟩)] (by simp) (RB.one _ (bdR_plain (by simp) rfl))
    exact this
   have ht := L5 L
   rw [bnd hst,bnd (show AB 1 mk 0 = some [⟨1,mk,0⟩] from rfl),bnd (show AB 25 0 0 = some [⟨25,0,0⟩] from rfl),bnd ej,w64s (by omega)]
   have := MW hL hF hks ((at_ + 1 + (L.map fun d => d.B.length + 1).sum : Nat) : Int) (by omega) ks.length 0 [((⟨1,mk,0⟩ : Ac),S0),(⟨25,0,0⟩,⟨0,false,false⟩)] (at_ + 1) (by omega) (by simp only [List.drop_zero,List.length_cons,List.length_nil]; omega) (by simp only [List.drop_zero]; omega) hb
   rw [show ((0 : Nat) : Int) = 0 from rfl,List.drop_zero] at this
   rw [this]; rfl
 | n + 1,q,hq => by
   have hql : q < ks.length := by omega
   have hqL : q < L.length := by omega
   have cf := hF q hql hqL
   have hle : ((L.take (q + 1)).map fun d => d.B.length + 1).sum ≤ (F3 L).length := by
    rw [L5]
    have := List.take_append_drop (q + 1) L
    rw [← congrArg (fun z => (z.map fun d : JL => d.B.length + 1).sum) this]
    simp only [List.map_append,List.sum_append]
    omega
   rw [HY hqL] at hle
   simp only [List.map_append,List.sum_append,List.map_cons,List.map_nil,List.sum_cons,List.sum_nil] at hle
   obtain ⟨b,k1,k2⟩ := cf.kid
   have hkl := cf.node
   have st : Cj slf l P i (DK ks) at_ ((at_ + 1 + ((L.take q).map fun d => d.B.length + 1).sum : Nat) : Int) q ((L.take q).map fun d => absL 0 d.B) = some (.inl (((at_ + 1 + ((L.take (q + 1)).map fun d => d.B.length + 1).sum : Nat) : Int),((q + 1 : Nat) : Int),(L.take (q + 1)).map fun d => absL 0 d.B)) := by
    unfold Cj
    rw [dct (by simp; omega),ksAt ks q hql,bnd rfl,bnd rfl,bnd (show lAt l (ks[q] : Int) = some (nd l ks[q]) from Hc hkl),bnd k1,bnd k2,JF (by simp; omega)]
    have e1 : ((L.take q).map fun d => absL 0 d.B) ++ [absL 0 L[q].B] = (L.take (q + 1)).map fun d => absL 0 d.B := by rw [HY hqL,List.map_append]; rfl
    have e2 : lAt (((L.take q).map fun d => absL 0 d.B) ++ [absL 0 L[q].B]) (q : Int) = some (absL 0 L[q].B) := by
     have := Q7 ((L.take q).map fun d => absL 0 d.B) (absL 0 L[q].B)
     rw [List.length_map,List.length_take,Nat.min_eq_left (by omega)] at this
     exact this
    rw [bnd e2,e1,BK,w64i (n := ((at_ + 1 + ((L.take q).map fun d => d.B.length + 1).sum : Nat) : Int) + (L[q].B.length : Int)) (by omega) (by omega),w64i (n := ((at_ + 1 + ((L.take q).map fun d => d.B.length + 1).sum : Nat) : Int) + (L[q].B.length : Int) + 1) (by omega) (by omega),w64s (by omega)]
    have e3 : ((at_ + 1 + ((L.take q).map fun d => d.B.length + 1).sum : Nat) : Int) + (L[q].B.length : Int) + 1 = ((at_ + 1 + ((L.take (q + 1)).map fun d => d.B.length + 1).sum : Nat) : Int) := by
     rw [HY hqL]
     simp only [List.map_append,List.sum_append,List.map_cons,List.map_nil,List.sum_cons,List.sum_nil]
     omega
    rw [e3]; rfl
   rw [Loop_inl st]
   exact My i at_ mk hst hat hsz hb n (q + 1) (by omega)
theorem MN (i : Nat) (mk : Int) (hst : DM l i = some mk) (hsz : 2 + sumLen L + 1 + (F3 L).length ≤ 40000) (hb : RB (F3 L)) : ∀ (n q : Nat),q + n = ks.length →
    Loop (fun s : (Int × Int) => Ci slf l P i (DK ks) s.1 s.2) (((2 + sumLen (L.take q) : Nat) : Int),(q : Int)) = some (absL 0 ([((⟨1,mk,0⟩ : Ac),S0),(⟨25,0,0⟩,⟨0,false,false⟩)] ++ headsL 2 ((2 + sumLen L + 1 : Nat) : Int) L ++ ((⟨23,0,0⟩,⟨0,true,false⟩) :: F3 L)))
 | 0,q,hq => by
   have hd : L.take q = L := List.take_of_length_le (by omega)
   rw [hd]
   refine Loop_inr ?_
   show Ci slf l P i (DK ks) ((2 + sumLen L : Nat) : Int) q = _
   unfold Ci
   rw [dcf (by simp; omega)]
   have := My hL hF hks i (2 + sumLen L) mk hst rfl hsz hb ks.length 0 (by omega)
   rw [show ((0 : Nat) : Int) = 0 from rfl] at this
   simp only [List.take_zero,List.map_nil,List.sum_nil,Nat.add_zero] at this
   show (Loop _ _).map _ = _
   rw [w64s (k := 2 + sumLen L) (by omega),this]; rfl
 | n + 1,q,hq => by
   have hql : q < ks.length := by omega
   have hqL : q < L.length := by omega
   have cf := hF q hql hqL
   have hle : sumLen (L.take (q + 1)) ≤ sumLen L := by
    have := List.take_append_drop (q + 1) L
    unfold sumLen
    rw [← congrArg (fun z => (z.map fun d : JL => d.len).sum) this]
    simp only [List.map_append,List.sum_append]
    omega
   have e3 : sumLen (L.take (q + 1)) = sumLen (L.take q) + L[q].len := by
    unfold sumLen
    rw [HY hqL]
    simp only [List.map_append,List.sum_append,List.map_cons,List.map_nil,List.sum_cons,List.sum_nil]
    omega
   have st : Ci slf l P i (DK ks) ((2 + sumLen (L.take q) : Nat) : Int) q = some (.inl (((2 + sumLen (L.take (q + 1)) : Nat) : Int),((q + 1 : Nat) : Int))) := by
    unfold Ci HM
    have hh := cf.head 0 0 (by omega) (by omega)
    rw [show ((0 : Nat) : Int) = 0 from rfl] at hh
    rw [dct (by simp; omega),ksAt ks q hql,bnd rfl,bnd hh,bnd rfl,BK,cf.hd.flen,w64i (n := ((2 + sumLen (L.take q) : Nat) : Int) + (L[q].len : Int)) (by omega) (by omega),w64s (by omega),e3,show ((2 + sumLen (L.take q) : Nat) : Int) + (L[q].len : Int) = ((2 + (sumLen (L.take q) + L[q].len) : Nat) : Int) by omega]
    rfl
   rw [Loop_inl st]
   exact MN i mk hst hsz hb n (q + 1) (by omega)
end
end Go.Ab
end
section
namespace Go.Ab
set_option linter.unusedVariables false
def mkB (L : List JL) : List Int := (L.map fun d => mkM d.B).flatten
abbrev spC : Sp := ⟨0,true,false⟩
abbrev anSel : An := (⟨23,0,0⟩,spC)
def NF (e : Ev) (L : List JL) : Prop := ∀ d ∈ L,HdC e d.f d.len ∧ Frag e d.B S0 S0
theorem Mq {e : Ev} : ∀ (L : List JL) (a b : Int),NF e L → (headsL a b L).length = sumLen L
 | [],_,_,_ => rfl
 | d :: r,a,b,h => by
   have h1 := Mq r (a + d.len) (b + d.B.length + 1) (fun x hx => h x (by simp [hx]))
   simp only [headsL,List.length_append,(h d (by simp)).1.flen,h1,sumLen,List.map_cons,List.sum_cons]
theorem Pw {e : Ev} (X : List An) (o : Sp) : ∀ (L : List JL) (a b : Int),NF e L → hd (headsL a b L ++ anSel :: X) o = spC
 | [],_,_,_ => rfl
 | d :: r,a,b,h => by
   simp only [headsL,List.append_assoc]
   rw [JS]
   exact (h d (by simp)).1.beg _ _
theorem Su {e : Ev} : ∀ (L : List JL),NF e L → hd (F3 L) S0 = S0
 | [],_ => rfl
 | d :: r,h => by
   simp only [F3]
   rw [JS]
   exact (h d (by simp)).2.beg
theorem L4 {e : Ev} : ∀ (L : List JL),NF e L → Frag e (F3 L) S0 S0
 | [],_ => Frag.nil e S0
 | d :: r,h => by
   have ih := L4 r (fun x hx => h x (by simp [hx]))
   refine (h d (by simp)).2.app ⟨⟨⟨.jump _ 0 false true ⟨F3 r,[],by simp,rfl,⟨rfl,rfl,fun _ => rfl⟩⟩,by show 0 ≤ 100000; omega⟩,?_⟩,rfl⟩
   exact ih.at _ [] S0 rfl
theorem Pu {e : Ev} : ∀ (L : List JL) (a b : Int) (Pre P : List An),NF e L → b - a = (sumLen L : Int) + 1 + Pre.length → WF e P (headsL a b L) (anSel :: (Pre ++ F3 L)) S0
 | [],_,_,_,_,_,_ => trivial
 | d :: r,a,b,Pre,P,h,hb => by
   have hr : NF e r := fun x hx => h x (by simp [hx])
   have hl := Mq r (a + d.len) (b + d.B.length + 1) hr
   simp only [sumLen,List.map_cons,List.sum_cons] at hb
   simp only [headsL]
   refine WF.app _ _ P _ S0 ((h d (by simp)).1.wf _ P _ S0 (Pw _ _ r _ _ hr) ⟨headsL (a + d.len) (b + d.B.length + 1) r ++ anSel :: Pre,F3 (d :: r),by simp,?_,Su (d :: r) h⟩) ?_
   · rw [List.length_append,hl,List.length_cons]
     unfold sumLen
     omega
   · have := Pu r (a + d.len) (b + d.B.length + 1) (Pre ++ d.B ++ [((⟨6,((F3 r).length : Int) + 1,0⟩ : Ac),S0)]) (P ++ d.f (b - a - ((d.len : Int) - 1))) hr (by simp only [List.length_append,List.length_singleton]; unfold sumLen; omega)
     simp only [List.append_assoc,List.singleton_append] at this
     simpa [F3] using this
theorem Pv {e : Ev} : ∀ (L : List JL) (a b : Int),NF e L → mkM (headsL a b L) = []
 | [],_,_,_ => rfl
 | d :: r,a,b,h => by
   simp only [headsL]
   rw [D9,(h d (by simp)).1.marks,Pv r _ _ (fun x hx => h x (by simp [hx]))]; rfl
theorem Ql : ∀ (L : List JL),mkM (F3 L) = mkB L
 | [] => rfl
 | d :: r => by
   simp only [F3]
   rw [D9,Je _ _ (by simp),Ql r]
   simp [mkB]
theorem Rp {e : Ev} (L : List JL) (h : NF e L) (mk : Int) : Frag e ([((⟨1,mk,0⟩ : Ac),S0),(⟨25,0,0⟩,⟨0,false,false⟩)] ++ headsL 2 ((2 + sumLen L + 1 : Nat) : Int) L ++ anSel :: F3 L) S0 S0 := by
 have hh := Pw (e := e) (F3 L) S0 L 2 ((2 + sumLen L + 1 : Nat) : Int) h
 refine ⟨?_,rfl⟩
 rw [List.append_assoc]
 refine ⟨⟨.mark mk true ⟨rfl,rfl⟩,by show 0 ≤ 100000; omega⟩,⟨.choose ⟨?_,?_⟩,by show 0 ≤ 100000; omega⟩,?_⟩
 · show (hd ((headsL _ _ L ++ anSel :: F3 L) ++ []) S0).n = 0
   rw [List.append_nil,hh]
 · show (hd ((headsL _ _ L ++ anSel :: F3 L) ++ []) S0).c = true
   rw [List.append_nil,hh]
 · show WF e _ (headsL 2 ((2 + sumLen L + 1 : Nat) : Int) L ++ anSel :: F3 L) [] S0
   refine WF.app _ _ _ [] S0 ?_ ⟨⟨.select,by show 0 ≤ 100000; omega⟩,(L4 L h).at _ [] S0 rfl⟩
   rw [List.append_nil]
   exact Pu L 2 ((2 + sumLen L + 1 : Nat) : Int) [] _ h (by simp; omega)
theorem RP {l : List Aa} {P : Ah} {nv : Nat} (hl : l.length ≤ 3000) (slf : ND) (lo hi : Nat) (hB : ∀ b j,Pcs l [.B] b j [b] → lo ≤ b → j ≤ hi → ∃ C,slf l P b = some C ∧ BlkC l (evOf P nv) C b j) (hn : ∀ p,lo ≤ p → p < hi → NdF l P nv p) {cs : List Cls} {i k : Nat} {ss : List Nat} (h : Pcs l cs i k ss) : (∀ c ∈ cs,c = .C) → lo ≤ i → k ≤ hi → hi ≤ l.length →
    ∃ L : List JL,L.length = ss.length ∧ (∀ (q : Nat) (h : q < ss.length) (h' : q < L.length),TF l P (evOf P nv) slf ss[q] L[q]) ∧ mkB L = rng (cntS l i) (cntS l k) ∧ sumLen L + (F3 L).length ≤ 5 * (k - i) := by
 induction h with
 | nil i => exact fun _ _ _ _ => ⟨[],rfl,(fun q h => by cases h),(by rw [M8]; rfl),(by simp [sumLen,F3])⟩
 | cons c cs i j k x kc ks ss hx hs hk hr ih1 ih2 =>
   intro hc h0 h1 h2
   have hcc := hc c (by simp)
   subst hcc
   have hp := Pcs.mk1 hx hs hk
   have le1 := hp.le.2.1 (by simp); have le2 := hr.le.1
   obtain ⟨L,a1,a2,a3,a4⟩ := ih2 (fun d hd => hc d (by simp [hd])) (by omega) h1 h2
   obtain ⟨b,f,len,p1,b1,b2,b3,b4,b5,b6⟩ := (QR hl i j hp (fun p a b => hn p (by omega) (by omega))).h
   have le3 := p1.le.2.1 (by simp)
   obtain ⟨C,e1,M,rfl,m2,m3,m4,m5⟩ := hB b j p1 (by omega) (by omega)
   refine ⟨⟨f,len,M⟩ :: L,by simp [a1],fun q hq hq' => ?_,?_,?_⟩
   · cases q with
     | zero => exact ⟨by show i < l.length; omega,⟨b,b2,e1⟩,b6,b3,m3⟩
     | succ q => exact a2 q (by simpa using hq) (by simpa using hq')
   · have : mkB (⟨f,len,M⟩ :: L) = mkM M ++ mkB L := by simp [mkB]
     rw [this,m5,a3,b5,J1 (HG l (by omega)) (HG l le2)]
   · simp only [sumLen,F3,List.map_cons,List.sum_cons,List.length_append,List.length_cons]
     simp only [sumLen] at a4
     omega
theorem RY {l : List Aa} (hl : l.length ≤ 3000) (i : Nat) (hi : i < l.length) (hs : isSt (nd l i) = true) : DM l i = some (cntS l i : Int) := by
 have isE : ∀ x,DR x = some (isSt x) := fun x => by
  unfold DR Fe isSt
  cases decide (18 ≤ x.Op) <;> rfl
 unfold DM
 rw [dcf (by omega),dcf (by omega)]
 show (lAt l i).bind _ = _
 rw [bnd (Hc hi),bnd (isE _),hs]
 unfold EA
 show Loop (fun s : (Int × Int) => CR l i s.1 s.2) (0,0) = _
 have cl : ∀ p,cntS l p ≤ 3000 := fun p => by
  unfold cntS
  have := List.countP_le_length (p := isSt) (l := l.take p)
  rw [List.length_take] at this
  omega
 refine Ln (fun k => ((cntS l k : Int),(k : Int))) i (fun k hk => ?_) ?_
 · show CR l i (cntS l k) k = _
   unfold CR
   have := cl k
   rw [dct (by omega),bnd (Hc (by omega)),bnd (isE _),IY l k (nd l k) (nd_at (by omega))]
   unfold FL
   rw [w64s (by omega),w64s (by omega)]
   cases isSt (nd l k) <;> rfl
 · show CR l i (cntS l i) i = _
   unfold CR
   rw [dcf (by omega)]; rfl
theorem OQ {l : List Aa} {P : Ah} {nv : Nat} (hl : l.length ≤ 3000) (slf : ND) (i j : Nat) (x : Aa) (hx : l[i]? = some x) (n : Nat) (ho : x.Op = 25) (hkn : x.Kids = n) (ks : List Nat) (hk : Pcs l (List.replicate n .C) (i + 1) j ks) (hij : i < j ∧ j ≤ l.length) (hB : ∀ b j',Pcs l [.B] b j' [b] → i + 1 ≤ b → j' ≤ j → ∃ C,slf l P b = some C ∧ BlkC l (evOf P nv) C b j') (hn : ∀ p,i + 1 ≤ p → p < j → NdF l P nv p) :
    ∃ C,Eb slf l P i = some C ∧ BlkC l (evOf P nv) C i j := by
 obtain ⟨L,a1,a2,a3,a4⟩ := RP hl slf (i + 1) j hB hn hk (fun c hc => (List.mem_replicate.mp hc).2) (by omega) (by omega) hij.2
 have hks : ks.length ≤ 3000 := by
  have key : ∀ {cs : List Cls} {i k : Nat} {ss : List Nat},Pcs l cs i k ss → cs.length ≤ k - i := by
   intro cs i k ss h
   induction h with
   | nil i => simp
   | cons c cs i j k x kc ks ss hx hs hk hr ih1 ih2 => have := hk.le; have := hr.le; simp; omega
  have := key hk; have := hk.le.2.2; omega
 have good : NF (evOf P nv) L := fun d hd => by
  obtain ⟨q,hq,rfl⟩ := List.getElem_of_mem hd
  have := a2 q (by omega) hq
  exact ⟨this.hd,this.fr⟩
 have hst : isSt (nd l i) = true := by rw [JT hx]; unfold isSt; rw [ho]; rfl
 have hsn := RY hl i (by omega) hst
 have fr := Rp L good (cntS l i : Int)
 have hlen := Mq L 2 ((2 + sumLen L + 1 : Nat) : Int) good
 refine ⟨_,?_,_,rfl,?_,fr,.inr ⟨_,_,rfl,rfl⟩,?_⟩
 · unfold Eb
   rw [bnd (J5 hl hx (.sel ho n hkn) hk)]
   have := MN (P := P) a1 a2 hks i (cntS l i : Int) hsn (by omega) ((L4 L good).rb (by omega)) ks.length 0 (by omega)
   simpa [sumLen] using this
 · simp only [List.length_append,List.length_cons,List.length_nil,hlen]
   omega
 · have e1 : cntS l (i + 1) = cntS l i + 1 := by rw [IY l i (nd l i) (nd_at (by omega)),hst]; rfl
   have e2 : mkM [((⟨1,(cntS l i : Int),0⟩ : Ac),S0),(⟨25,0,0⟩,⟨0,false,false⟩)] = rng (cntS l i) (cntS l i + 1) := by rw [Lz]; rfl
   have e3 : mkM (anSel :: F3 L) = mkB L := by rw [Je (x := ⟨23,0,0⟩) spC _ (by simp),Ql]
   have hm := HG l (show i + 1 ≤ j by omega)
   rw [D9,D9,Pv L _ _ good,e2,e3,a3,e1,List.append_nil,J1 (by omega) (by omega)]
end Go.Ab
end
section
namespace Go.Ab
set_option linter.unusedVariables false
theorem BlkC.nil (l : List Aa) (e : Ev) (i : Nat) : BlkC l e [] i i := ⟨[],rfl,by simp,Frag.nil e S0,.inl rfl,by rw [M8]; rfl⟩
theorem BlkC.app {l : List Aa} {e : Ev} {C D : List Ac} {i m j : Nat} (h : BlkC l e C i m) (h' : BlkC l e D m j) (h1 : i ≤ m) (h2 : m ≤ j) : BlkC l e (jn C D) i j := by
 obtain ⟨M,a1,a2,a3,a4,a5⟩ := h
 obtain ⟨N,b1,b2,b3,b4,b5⟩ := h'
 refine ⟨M ++ N,by rw [a1,b1,MV],by simp; omega,a3.app b3,?_,by rw [D9,a5,b5,J1 (HG l h1) (HG l h2)]⟩
 rcases a4 with rfl | ⟨a,r,rfl,hr⟩
 · rw [List.nil_append]; exact b4
 · exact .inr ⟨a,r ++ N,rfl,hr⟩
theorem BlkC.len {l : List Aa} {e : Ev} {C : List Ac} {i j : Nat} (h : BlkC l e C i j) : C.length ≤ 5 * (j - i) := by
 obtain ⟨M,rfl,h2,_⟩ := h
 rw [BK]; exact h2
theorem BlkC.bd {l : List Aa} {e : Ev} {C : List Ac} {i j : Nat} (h : BlkC l e C i j) (hj : j ≤ 3000) : ∀ x ∈ C,BdI x := by
 obtain ⟨M,rfl,h2,h3,_⟩ := h
 exact absL_bd M 0 (h3.rb (by omega)).bd (by omega) (by omega)
theorem TM {l : List Aa} {e : Ev} (A C : List Ac) {i j : Nat} (h : BlkC l e C i j) (hj : j ≤ 3000) (hA : A.length ≤ 100000) : Ar A C = some (jn A C) := KU A C hA (by have := h.len; omega) (h.bd hj)
abbrev anMk (n : Int) : An := (⟨1,n,0⟩,S0)
theorem Mm {e : Ev} {M : List An} {m : Nat} (n : Int) (h : Frag e M ⟨0,false,false⟩ ⟨m,false,false⟩) : Frag e (anMk n :: M) S0 ⟨m,false,false⟩ :=
 ⟨⟨⟨.mark n true (by rw [List.append_nil,h.beg]; exact ⟨rfl,rfl⟩),by show 0 ≤ 100000; omega⟩,h.at _ [] _ rfl⟩,rfl⟩
section
variable {l : List Aa} {P : Ah} {nv : Nat} (hl : l.length ≤ 3000) {i j : Nat} {x : Aa} (hx : l[i]? = some x) (hs : isSt x = true) (hij : i < j) (hjl : j ≤ l.length)
include hx hs in
theorem cnt1 : cntS l (i + 1) = cntS l i + 1 := by rw [IY l i x hx,hs]; rfl
include hl hx hs hij in
theorem L8 {e : Ev} {C : List Ac} {m : Nat} (h : RowC e C m (j - (i + 1))) (hcnt : cntS l j = cntS l (i + 1)) (y : Ac) (hy : Act e y m) (hjl : j ≤ l.length) : BlkC l e (jn (jn [⟨1,(cntS l i : Int),0⟩] C) [y]) i j := by
 obtain ⟨M,a,b,d,q⟩ := h.ok 0 false (by omega)
 rw [Nat.zero_add] at d
 have hyo : y.Op ≠ 1 := by cases hy <;> simp
 have hm := h.le
 refine ⟨(anMk (cntS l i) :: M) ++ [(y,⟨m,false,false⟩)],?_,by simp; omega,(Mm _ d).app (Frag.one (.act y m hy rfl) (by show m ≤ 100000; omega)),.inr ⟨anMk (cntS l i),_,rfl,rfl⟩,?_⟩
 · rw [← QO _ y _ (MA y),a]
   have := MV [anMk (cntS l i)] M
   rw [show anMk (cntS l i) :: M = [anMk (cntS l i)] ++ M from rfl,← this]; rfl
 · rw [D9,IS _ hyo,show anMk (cntS l i) :: M = [anMk (cntS l i)] ++ M from rfl,D9,q,hcnt,cnt1 hx hs,Lz]; rfl
include hx hs in
theorem Qn {e : Ev} (hj : j = i + 1) : BlkC l e (jn [⟨1,(cntS l i : Int),0⟩] [⟨18,0,0⟩]) i j := by
 refine ⟨[anMk (cntS l i),(⟨18,0,0⟩,⟨0,false,false⟩)],rfl,by simp; omega,⟨⟨⟨.mark _ true ⟨rfl,rfl⟩,by show 0 ≤ 100000; omega⟩,⟨.stop,by show 0 ≤ 100000; omega⟩,trivial⟩,rfl⟩,.inr ⟨anMk (cntS l i),_,rfl,rfl⟩,?_⟩
 rw [hj,cnt1 hx hs,Lz]; rfl
include hl hx hs hij hjl in
theorem PL {e : Ev} {T B : List Ac} {a : Nat} (ha : i + 1 < a ∧ a < j) (hT : TermC e T (a - (i + 1))) (hB : BlkC l e B a j) (hcnt : cntS l a = cntS l (i + 1)) (self : ND) :
    ∃ C,((Ar [⟨1,(cntS l i : Int),0⟩] T).bind fun y217 => (AB 7 (w64 ((w64 ((w64 ((w64 (((y217).length : Int) + 1)) + ((B).length : Int))) + 1)) - ((y217).length : Int))) 0).bind fun y239 => (Ar y217 y239).bind fun y240 => (A0 B y240).bind fun y241 => (AB 6 (w64 ((w64 (0 - (w64 ((w64 ((w64 (((y217).length : Int) + 1)) + ((B).length : Int))) + 1)))) + 1)) 0).bind fun y242 => (AF y241 y242).bind fun y243 => some y243) = some C ∧ BlkC l e C i j := by
 obtain ⟨M,rfl,b,d,q⟩ := hT 0 false (by omega)
 obtain ⟨N,rfl,n2,n3,n4,n5⟩ := hB
 rw [Nat.zero_add] at d
 have e1 : Ar [⟨1,(cntS l i : Int),0⟩] (absL 0 M) = some (absL 0 (anMk (cntS l i) :: M)) := MJ [anMk (cntS l i)] M (by simp) (d.rb (by omega))
 have zb : BdR ⟨7,(N.length : Int) + 2,0⟩ := ⟨fun h => (by cases h),fun _ => by show -100000 ≤ (N.length : Int) + 2 ∧ (N.length : Int) + 2 ≤ 100000; omega⟩
 have jb : BdR ⟨6,-((M.length : Int) + N.length + 2),0⟩ := ⟨fun h => (by cases h),fun _ => by show -100000 ≤ -((M.length : Int) + N.length + 2) ∧ -((M.length : Int) + N.length + 2) ≤ 100000; omega⟩
 have e2 : Ar (absL 0 (anMk (cntS l i) :: M)) [⟨7,(N.length : Int) + 2,0⟩] = some (absL 0 ((anMk (cntS l i) :: M) ++ [((⟨7,(N.length : Int) + 2,0⟩ : Ac),(⟨1,false,false⟩ : Sp))])) := by
  have := MJ (anMk (cntS l i) :: M) [((⟨7,(N.length : Int) + 2,0⟩ : Ac),(⟨1,false,false⟩ : Sp))] (by simp; omega) (RB.one _ zb)
  rw [JH,MA] at this
  exact this
 have e3 : A0 (absL 0 N) (absL 0 ((anMk (cntS l i) :: M) ++ [((⟨7,(N.length : Int) + 2,0⟩ : Ac),(⟨1,false,false⟩ : Sp))])) = some (absL 0 ((anMk (cntS l i) :: M) ++ [((⟨7,(N.length : Int) + 2,0⟩ : Ac),(⟨1,false,false⟩ : Sp))] ++ N)) := Pr _ N (by simp; omega) (n3.rb (by omega))
 have e4 : AF (absL 0 ((anMk (cntS l i) :: M) ++ [((⟨7,(N.length : Int) + 2,0⟩ : Ac),(⟨1,false,false⟩ : Sp))] ++ N)) [⟨6,-((M.length : Int) + N.length + 2),0⟩] = some (absL 0 ((anMk (cntS l i) :: M) ++ [((⟨7,(N.length : Int) + 2,0⟩ : Ac),(⟨1,false,false⟩ : Sp))] ++ N ++ [((⟨6,-((M.length : Int) + N.length + 2),0⟩ : Ac),S0)])) := by
  have := R5 ((anMk (cntS l i) :: M) ++ [((⟨7,(N.length : Int) + 2,0⟩ : Ac),(⟨1,false,false⟩ : Sp))] ++ N) [((⟨6,-((M.length : Int) + N.length + 2),0⟩ : Ac),S0)] (by simp; omega) (RB.one _ jb)
  rw [JH,MA] at this
  exact this
 refine ⟨_,?_,(anMk (cntS l i) :: M) ++ [((⟨7,(N.length : Int) + 2,0⟩ : Ac),(⟨1,false,false⟩ : Sp))] ++ N ++ [((⟨6,-((M.length : Int) + N.length + 2),0⟩ : Ac),S0)],rfl,?_,⟨?_,rfl⟩,.inr ⟨anMk (cntS l i),_,rfl,rfl⟩,?_⟩
 · rw [bnd e1]
   show Option.bind (some [(⟨7,_,0⟩ : Ac)]) _ = _
   have w1 : w64 ((w64 ((w64 ((w64 (((absL 0 (anMk (cntS l i) :: M)).length : Int) + 1)) + ((absL 0 N).length : Int))) + 1)) - ((absL 0 (anMk (cntS l i) :: M)).length : Int)) = (N.length : Int) + 2 := by
    rw [BK,BK,List.length_cons,w64i (n := ((M.length + 1 : Nat) : Int) + 1) (by omega) (by omega),w64i (n := ((M.length + 1 : Nat) : Int) + 1 + (N.length : Int)) (by omega) (by omega),w64i (n := ((M.length + 1 : Nat) : Int) + 1 + (N.length : Int) + 1) (by omega) (by omega),w64i (by omega) (by omega)]
    omega
   have w2 : w64 ((w64 (0 - (w64 ((w64 ((w64 (((absL 0 (anMk (cntS l i) :: M)).length : Int) + 1)) + ((absL 0 N).length : Int))) + 1)))) + 1) = -((M.length : Int) + N.length + 2) := by
    rw [BK,BK,List.length_cons,w64i (n := ((M.length + 1 : Nat) : Int) + 1) (by omega) (by omega),w64i (n := ((M.length + 1 : Nat) : Int) + 1 + (N.length : Int)) (by omega) (by omega),w64i (n := ((M.length + 1 : Nat) : Int) + 1 + (N.length : Int) + 1) (by omega) (by omega),w64i (n := 0 - (((M.length + 1 : Nat) : Int) + 1 + (N.length : Int) + 1)) (by omega) (by omega),w64i (by omega) (by omega)]
    omega
   rw [bnd rfl,w1,bnd e2,bnd e3,w2]
   show Option.bind (some [(⟨6,_,0⟩ : Ac)]) _ = _
   rw [bnd rfl,bnd e4]
 · simp; omega
 · have hN : ∀ X : List An,hd (N ++ X) S0 = hd N (hd X S0) := fun X => JS N X S0
   have hM : ∀ X : List An,hd (M ++ X) S0 = hd M (hd X S0) := fun X => JS M X S0
   rw [List.append_assoc,List.append_assoc]
   refine ⟨⟨.mark _ true (by show (hd ((M ++ _) ++ []) S0).n = 0 ∧ (hd ((M ++ _) ++ []) S0).c = false; rw [List.append_nil,hM]; show (hd M (⟨1,false,false⟩ : Sp)).n = 0 ∧ (hd M (⟨1,false,false⟩ : Sp)).c = false; rw [d.beg]; exact ⟨rfl,rfl⟩),by show 0 ≤ 100000; omega⟩,WF.app M _ _ [] S0 (d.at _ _ S0 rfl) ?_⟩
   refine ⟨⟨.zero 7 _ 0 false (.inl rfl) ?_ ⟨N ++ [((⟨6,-((M.length : Int) + N.length + 2),0⟩ : Ac),S0)],[],by simp,by simp; omega,⟨rfl,rfl⟩⟩,by show 1 ≤ 100000; omega⟩,WF.app N _ _ [] S0 (n3.at _ _ S0 rfl) ⟨⟨.back _ [] (M ++ [((⟨7,(N.length : Int) + 2,0⟩ : Ac),(⟨1,false,false⟩ : Sp))] ++ N) (anMk (cntS l i)) (by simp) rfl (by simp; omega),by show 0 ≤ 100000; omega⟩,trivial⟩⟩
   show (hd ((N ++ _) ++ []) S0).n = 0 ∧ (hd ((N ++ _) ++ []) S0).c = false
   rw [List.append_nil,hN]
   show (hd N S0).n = 0 ∧ (hd N S0).c = false
   rw [n3.beg]; exact ⟨rfl,rfl⟩
 · have e5 : mkM [anMk (cntS l i)] = rng (cntS l i) (cntS l i + 1) := by rw [Lz]; rfl
   have hm := HG l (show a ≤ j by omega)
   rw [D9,D9,D9,show anMk (cntS l i) :: M = [anMk (cntS l i)] ++ M from rfl,D9,e5,q,n5,IS _ (by simp),IS _ (by simp),hcnt,cnt1 hx hs]
   rw [cnt1 hx hs] at hcnt
   rw [List.append_nil,List.append_nil,List.append_nil,J1 (by omega) (by omega)]
include hl hx hs hij hjl in
theorem RE {e : Ev} {T B : List Ac} {a : Nat} (ha : i + 1 < a ∧ a < j) (hT : TermC e T (a - (i + 1))) (hB : BlkC l e B a j) (hcnt : cntS l a = cntS l (i + 1)) :
    ∃ C,((Ar [⟨1,(cntS l i : Int),0⟩] T).bind fun y217 => (AB 7 (w64 (1 + ((B).length : Int))) 0).bind fun y255 => (Ar y217 y255).bind fun y256 => (A0 B y256).bind fun y257 => some y257) = some C ∧ BlkC l e C i j := by
 obtain ⟨M,rfl,b,d,q⟩ := hT 0 false (by omega)
 obtain ⟨N,rfl,n2,n3,n4,n5⟩ := hB
 rw [Nat.zero_add] at d
 have e1 : Ar [⟨1,(cntS l i : Int),0⟩] (absL 0 M) = some (absL 0 (anMk (cntS l i) :: M)) := MJ [anMk (cntS l i)] M (by simp) (d.rb (by omega))
 have zb : BdR ⟨7,1 + (N.length : Int),0⟩ := ⟨fun h => (by cases h),fun _ => by show -100000 ≤ 1 + (N.length : Int) ∧ 1 + (N.length : Int) ≤ 100000; omega⟩
 have e2 : Ar (absL 0 (anMk (cntS l i) :: M)) [⟨7,1 + (N.length : Int),0⟩] = some (absL 0 ((anMk (cntS l i) :: M) ++ [((⟨7,1 + (N.length : Int),0⟩ : Ac),(⟨1,false,false⟩ : Sp))])) := by
  have := MJ (anMk (cntS l i) :: M) [((⟨7,1 + (N.length : Int),0⟩ : Ac),(⟨1,false,false⟩ : Sp))] (by simp; omega) (RB.one _ zb)
  rw [JH,MA] at this
  exact this
 have e3 : A0 (absL 0 N) (absL 0 ((anMk (cntS l i) :: M) ++ [((⟨7,1 + (N.length : Int),0⟩ : Ac),(⟨1,false,false⟩ : Sp))])) = some (absL 0 ((anMk (cntS l i) :: M) ++ [((⟨7,1 + (N.length : Int),0⟩ : Ac),(⟨1,false,false⟩ : Sp))] ++ N)) := Pr _ N (by simp; omega) (n3.rb (by omega))
 refine ⟨_,?_,(anMk (cntS l i) :: M) ++ [((⟨7,1 + (N.length : Int),0⟩ : Ac),(⟨1,false,false⟩ : Sp))] ++ N,rfl,?_,?_,.inr ⟨anMk (cntS l i),_,rfl,rfl⟩,?_⟩
 · have w1 : w64 (1 + ((absL 0 N).length : Int)) = 1 + (N.length : Int) := by rw [BK,w64i (by omega) (by omega)]
   rw [bnd e1,w1]
   show Option.bind (some [(⟨7,_,0⟩ : Ac)]) _ = _
   rw [bnd rfl,bnd e2,bnd e3]
 · simp; omega
 · rw [List.append_assoc]
   refine (Mm _ d).app ⟨⟨⟨.zero 7 _ 0 false (.inl rfl) (by rw [List.append_nil]; show (hd N S0).n = 0 ∧ (hd N S0).c = false; rw [n3.beg]; exact ⟨rfl,rfl⟩) ⟨N,[],by simp,by omega,⟨rfl,rfl⟩⟩,by show 1 ≤ 100000; omega⟩,n3.at _ [] S0 rfl⟩,rfl⟩
 · have e5 : mkM [anMk (cntS l i)] = rng (cntS l i) (cntS l i + 1) := by rw [Lz]; rfl
   have hm := HG l (show a ≤ j by omega)
   rw [D9,D9,show anMk (cntS l i) :: M = [anMk (cntS l i)] ++ M from rfl,D9,e5,q,n5,IS _ (by simp),hcnt,cnt1 hx hs]
   rw [cnt1 hx hs] at hcnt
   rw [List.append_nil,List.append_nil,J1 (by omega) (by omega)]
include hl hx hs hij hjl in
theorem RD {e : Ev} {T B B2 : List Ac} {a c : Nat} (ha : i + 1 < a ∧ a < c ∧ c < j) (hT : TermC e T (a - (i + 1))) (hB : BlkC l e B a c) (hB2 : BlkC l e B2 c j) (hcnt : cntS l a = cntS l (i + 1)) :
    ∃ C,((Ar [⟨1,(cntS l i : Int),0⟩] T).bind fun y217 => (AB 7 (w64 (2 + ((B).length : Int))) 0).bind fun y265 => (Ar y217 y265).bind fun y266 => (A0 B y266).bind fun y267 => (AB 6 (w64 (1 + ((B2).length : Int))) 0).bind fun y271 => (Ar y267 y271).bind fun y272 => (A0 B2 y272).bind fun y273 => some y273) = some C ∧ BlkC l e C i j := by
 obtain ⟨M,rfl,b,d,q⟩ := hT 0 false (by omega)
 obtain ⟨N,rfl,n2,n3,n4,n5⟩ := hB
 obtain ⟨O,rfl,o2,o3,o4,o5⟩ := hB2
 rw [Nat.zero_add] at d
 have e1 : Ar [⟨1,(cntS l i : Int),0⟩] (absL 0 M) = some (absL 0 (anMk (cntS l i) :: M)) := MJ [anMk (cntS l i)] M (by simp) (d.rb (by omega))
 have zb : BdR ⟨7,2 + (N.length : Int),0⟩ := ⟨fun h => (by cases h),fun _ => by show -100000 ≤ 2 + (N.length : Int) ∧ 2 + (N.length : Int) ≤ 100000; omega⟩
 have jb : BdR ⟨6,1 + (O.length : Int),0⟩ := ⟨fun h => (by cases h),fun _ => by show -100000 ≤ 1 + (O.length : Int) ∧ 1 + (O.length : Int) ≤ 100000; omega⟩
 have e2 : Ar (absL 0 (anMk (cntS l i) :: M)) [⟨7,2 + (N.length : Int),0⟩] = some (absL 0 ((anMk (cntS l i) :: M) ++ [((⟨7,2 + (N.length : Int),0⟩ : Ac),(⟨1,false,false⟩ : Sp))])) := by
  have := MJ (anMk (cntS l i) :: M) [((⟨7,2 + (N.length : Int),0⟩ : Ac),(⟨1,false,false⟩ : Sp))] (by simp; omega) (RB.one _ zb)
  rw [JH,MA] at this
  exact this
 have e3 : A0 (absL 0 N) (absL 0 ((anMk (cntS l i) :: M) ++ [((⟨7,2 + (N.length : Int),0⟩ : Ac),(⟨1,false,false⟩ : Sp))])) = some (absL 0 ((anMk (cntS l i) :: M) ++ [((⟨7,2 + (N.length : Int),0⟩ : Ac),(⟨1,false,false⟩ : Sp))] ++ N)) := Pr _ N (by simp; omega) (n3.rb (by omega))
 have e4 : Ar (absL 0 ((anMk (cntS l i) :: M) ++ [((⟨7,2 + (N.length : Int),0⟩ : Ac),(⟨1,false,false⟩ : Sp))] ++ N)) [⟨6,1 + (O.length : Int),0⟩] = some (absL 0 ((anMk (cntS l i) :: M) ++ [((⟨7,2 + (N.length : Int),0⟩ : Ac),(⟨1,false,false⟩ : Sp))] ++ N ++ [((⟨6,1 + (O.length : Int),0⟩ : Ac),S0)])) := by
  have := MJ ((anMk (cntS l i) :: M) ++ [((⟨7,2 + (N.length : Int),0⟩ : Ac),(⟨1,false,false⟩ : Sp))] ++ N) [((⟨6,1 + (O.length : Int),0⟩ : Ac),S0)] (by simp; omega) (RB.one _ jb)
  rw [JH,MA] at this
  exact this
 have e5 := Pr ((anMk (cntS l i) :: M) ++ [((⟨7,2 + (N.length : Int),0⟩ : Ac),(⟨1,false,false⟩ : Sp))] ++ N ++ [((⟨6,1 + (O.length : Int),0⟩ : Ac),S0)]) O (by simp; omega) (o3.rb (by omega))
 refine ⟨_,?_,(anMk (cntS l i) :: M) ++ [((⟨7,2 + (N.length : Int),0⟩ : Ac),(⟨1,false,false⟩ : Sp))] ++ N ++ [((⟨6,1 + (O.length : Int),0⟩ : Ac),S0)] ++ O,rfl,?_,?_,.inr ⟨anMk (cntS l i),_,rfl,rfl⟩,?_⟩
 · have w1 : w64 (2 + ((absL 0 N).length : Int)) = 2 + (N.length : Int) := by rw [BK,w64i (by omega) (by omega)]
   have w2 : w64 (1 + ((absL 0 O).length : Int)) = 1 + (O.length : Int) := by rw [BK,w64i (by omega) (by omega)]
   rw [bnd e1,w1,w2]
   show Option.bind (some [(⟨7,_,0⟩ : Ac)]) _ = _
   rw [bnd rfl,bnd e2,bnd e3]
   show Option.bind (some [(⟨6,_,0⟩ : Ac)]) _ = _
   rw [bnd rfl,bnd e4,bnd e5]
 · simp; omega
 · rw [List.append_assoc,List.append_assoc,List.append_assoc]
   refine (Mm _ d).app ⟨⟨⟨.zero 7 _ 0 false (.inl rfl) ?_ ⟨N ++ [((⟨6,1 + (O.length : Int),0⟩ : Ac),S0)],O,by simp,by simp; omega,by rw [o3.beg]; exact ⟨rfl,rfl⟩⟩,by show 1 ≤ 100000; omega⟩,WF.app N _ _ [] S0 (n3.at _ _ S0 rfl) ⟨⟨.jump _ 0 false true ⟨O,[],by simp,by omega,⟨rfl,rfl,fun _ => rfl⟩⟩,by show 0 ≤ 100000; omega⟩,o3.at _ [] S0 rfl⟩⟩,rfl⟩
   show (hd ((N ++ _) ++ []) S0).n = 0 ∧ (hd ((N ++ _) ++ []) S0).c = false
   rw [List.append_nil,JS]
   show (hd N S0).n = 0 ∧ (hd N S0).c = false
   rw [n3.beg]; exact ⟨rfl,rfl⟩
 · have e5 : mkM [anMk (cntS l i)] = rng (cntS l i) (cntS l i + 1) := by rw [Lz]; rfl
   have hm := HG l (show a ≤ c by omega)
   have hm2 := HG l (show c ≤ j by omega)
   rw [D9,D9,D9,D9,show anMk (cntS l i) :: M = [anMk (cntS l i)] ++ M from rfl,D9,e5,q,n5,o5,IS _ (by simp),IS _ (by simp),hcnt,cnt1 hx hs]
   rw [cnt1 hx hs] at hcnt
   rw [List.append_nil,List.append_nil,List.append_nil,J1 (by omega) (by omega),J1 (by omega) (by omega)]
end
end Go.Ab
end
section
namespace Go.Ab
set_option linter.unusedVariables false
theorem TA {e : Ev} {y : Ac} {w : Nat} (h : Act e y w) : BdI y := by cases h <;> exact bdI_plain (by simp) rfl
theorem stmt_code {l : List Aa} {P : Ah} {nv : Nat} (hl : l.length ≤ 3000) (slf : ND) (i j : Nat) (hp : Pcs l [.S] i j [i]) (hB : ∀ b j',Pcs l [.B] b j' [b] → i + 1 ≤ b → j' ≤ j → ∃ C,slf l P b = some C ∧ BlkC l (evOf P nv) C b j') (hn : ∀ p,i ≤ p → p < j → NdF l P nv p) :
    ∃ C,F5 slf l P i = some C ∧ BlkC l (evOf P nv) C i j := by
 have hij := hp.le.2.1 (by simp)
 obtain ⟨x,kc,ks,hx,hs,hk,_⟩ := hp.at_
 have nx : nd l i = x := JT hx
 have hst : isSt x = true := by unfold isSt; cases hs <;> simp <;> omega
 have hno := RY hl i (by omega) (by rw [nx]; exact hst)
 have nf := hn i (by omega) (by omega)
 unfold F5
 rw [bnd (show lAt l (i : Int) = some x by rw [lAtn]; exact hx),bnd hno]
 show ∃ C,cond (x.Op == 18) (AJ slf l P i x [⟨1,(cntS l i : Int),0⟩] (x.Op == 18)) (AJ slf l P i x [⟨1,(cntS l i : Int),0⟩] (x.Op == 19)) = some C ∧ _
 have simple : ∀ (ht : ∀ c ∈ kc,GD c = true) (y : Ac) (hy : Act (evOf P nv) y kc.length),∃ C D,AG l P i = some C ∧ Ar [⟨1,(cntS l i : Int),0⟩] C = some (jn [⟨1,(cntS l i : Int),0⟩] C) ∧ AF (jn [⟨1,(cntS l i : Int),0⟩] C) [y] = some D ∧ BlkC l (evOf P nv) D i j := by
  intro ht y hy
  obtain ⟨C,e1,r1⟩ := PU hl hx hs hk ht (fun p a b => hn p (by omega) b) hij.2
  have hlen := r1.len (by omega)
  have hyb := TA hy
  exact ⟨C,_,e1,TL _ C _ _ r1 (by omega) (by simp),QN _ y (by rw [Ps]; simp; omega) hyb,L8 hl hx hst hij.1 r1 (FC hk ht hij.2) y hy hij.2⟩
 have one : ∀ a b c : Int,AB a b c = some [⟨a,b,c⟩] := fun _ _ _ => rfl
 cases hs with
 | st1 h k =>
   have ht : ∀ c ∈ [Cls.E],GD c = true := by simp [GD]
   rcases h with h | h | h | h | h | h
   · obtain ⟨v,v1,v2,v3⟩ := nf.var (.inr (by rw [nx]; exact h))
     obtain ⟨C,D,e1,e2,e3,b⟩ := simple ht _ (.store v v2 v3)
     refine ⟨D,?_,b⟩
     rw [beqt h]
     show (AG l P i).bind _ = _
     rw [bnd e1,bnd e2,bnd v1,bnd (one _ _ _),bnd e3]
   · obtain ⟨v,v1,v2,v3⟩ := nf.var (.inl (by rw [nx]; unfold isV; omega))
     obtain ⟨C,D,e1,e2,e3,b⟩ := simple ht _ (.store v v2 v3)
     refine ⟨D,?_,b⟩
     rw [beqf (by omega),beqt h]
     show (AG l P i).bind _ = _
     rw [bnd e1,bnd e2,bnd v1,bnd (one _ _ _),bnd e3]
   · obtain ⟨v,v1,v2,v3⟩ := nf.var (.inl (by rw [nx]; unfold isV; omega))
     obtain ⟨C,D,e1,e2,e3,b⟩ := simple ht _ (.draw v v2 v3)
     refine ⟨D,?_,b⟩
     rw [beqf (by omega),beqf (by omega)]
     unfold AJ
     rw [beqt h]
     show (AG l P i).bind _ = _
     rw [bnd e1,bnd e2,bnd v1,bnd (one _ _ _),bnd e3]
   · obtain ⟨C,D,e1,e2,e3,b⟩ := simple ht _ .sleep
     refine ⟨D,?_,b⟩
     rw [beqf (by omega),beqf (by omega)]
     unfold AJ
     rw [beqf (show ¬ x.Op = 20 by omega),beqf (show ¬ x.Op = 21 by omega),beqf (show ¬ x.Op = 22 by omega),beqt h]
     show (AG l P i).bind _ = _
     rw [bnd e1,bnd e2,bnd (one _ _ _),bnd e3]
   · obtain ⟨C,D,e1,e2,e3,b⟩ := simple ht _ .print
     refine ⟨D,?_,b⟩
     rw [beqf (by omega),beqf (by omega)]
     unfold AJ
     rw [beqf (show ¬ x.Op = 20 by omega),beqf (show ¬ x.Op = 21 by omega),beqf (show ¬ x.Op = 22 by omega),beqf (show ¬ x.Op = 27 by omega),beqt h]
     show (AG l P i).bind _ = _
     rw [bnd e1,bnd e2,bnd (one _ _ _),bnd e3]
   · obtain ⟨C,D,e1,e2,e3,b⟩ := simple ht _ .assert
     refine ⟨D,?_,b⟩
     rw [beqf (by omega),beqf (by omega)]
     unfold AJ
     rw [beqf (show ¬ x.Op = 20 by omega),beqf (show ¬ x.Op = 21 by omega),beqf (show ¬ x.Op = 22 by omega),beqf (show ¬ x.Op = 27 by omega),beqf (show ¬ x.Op = 28 by omega),beqt h]
     show (AG l P i).bind _ = _
     rw [bnd e1,bnd e2,bnd (one _ _ _),bnd e3]
 | send h k =>
   obtain ⟨C,D,e1,e2,e3,b⟩ := simple (by simp [GD]) _ .send
   refine ⟨D,?_,b⟩
   rw [beqf (by omega),beqf (by omega)]
   unfold AJ
   rw [beqf (show ¬ x.Op = 20 by omega),beqt h]
   show (AG l P i).bind _ = _
   rw [bnd e1,bnd e2,bnd (one _ _ _),bnd e3]
 | recv h k =>
   obtain ⟨v,v1,v2,v3⟩ := nf.var (.inl (by rw [nx]; unfold isV; omega))
   obtain ⟨C,D,e1,e2,e3,b⟩ := simple (by simp [GD]) _ (.recv v v2 v3)
   refine ⟨D,?_,b⟩
   rw [beqf (by omega),beqf (by omega)]
   unfold AJ
   rw [beqf (show ¬ x.Op = 20 by omega),beqf (show ¬ x.Op = 21 by omega),beqt h]
   show (AG l P i).bind _ = _
   rw [bnd e1,bnd e2,bnd v1,bnd (one _ _ _),bnd e3]
 | start h n k =>
   obtain ⟨v,rt,v1,v2,v3⟩ := nf.sta (by rw [nx]; exact h)
   rw [nx] at v3
   have hyl : (List.replicate n Cls.E).length = n := by simp
   obtain ⟨C,D,e1,e2,e3,b⟩ := simple (by intro c hc; rw [(List.mem_replicate.mp hc).2]; rfl) ⟨14,v,x.Kids⟩ (by rw [hyl,k]; exact .start v n ⟨rt,v2,by rw [← k]; exact v3⟩)
   refine ⟨D,?_,b⟩
   rw [beqf (by omega),beqf (by omega)]
   unfold AJ
   rw [beqf (show ¬ x.Op = 20 by omega),beqf (show ¬ x.Op = 21 by omega),beqf (show ¬ x.Op = 22 by omega),beqf (show ¬ x.Op = 27 by omega),beqf (show ¬ x.Op = 28 by omega),beqf (show ¬ x.Op = 29 by omega),beqf (show ¬ x.Op = 30 by omega),beqf (show ¬ x.Op = 31 by omega),beqt h]
   show (AG l P i).bind _ = _
   rw [bnd e1,bnd e2,bnd v1,bnd (one _ _ _),bnd e3]
 | nul h k =>
   cases hk
   rw [beqf (by omega),beqf (by omega)]
   show ∃ C,AJ slf l P i x [⟨1,(cntS l i : Int),0⟩] false = some C ∧ _
   unfold AJ
   rcases h with h | h
   · rw [beqf (show ¬ x.Op = 20 by omega),beqf (show ¬ x.Op = 21 by omega),beqf (show ¬ x.Op = 22 by omega),beqf (show ¬ x.Op = 27 by omega),beqf (show ¬ x.Op = 28 by omega),beqf (show ¬ x.Op = 29 by omega),beqt h]
     have := L8 hl hx hst hij.1 (e := evOf P nv) (C := []) (m := 0) (by have := RowC.nil (evOf P nv); rwa [show i + 1 - (i + 1) = 0 by omega]) rfl ⟨17,0,0⟩ .skip hij.2
     refine ⟨_,?_,this⟩
     show (Ar [⟨1,(cntS l i : Int),0⟩] [⟨17,0,0⟩]).bind _ = _
     rw [bnd (RA [⟨1,(cntS l i : Int),0⟩] ⟨17,0,0⟩ (by simp) (bdI_plain (by simp) rfl))]
     rfl
   · rw [beqf (show ¬ x.Op = 20 by omega),beqf (show ¬ x.Op = 21 by omega),beqf (show ¬ x.Op = 22 by omega),beqf (show ¬ x.Op = 27 by omega),beqf (show ¬ x.Op = 28 by omega),beqf (show ¬ x.Op = 29 by omega),beqf (show ¬ x.Op = 30 by omega),beqt h]
     refine ⟨_,?_,Qn hx hst rfl⟩
     show (Ar [⟨1,(cntS l i : Int),0⟩] [⟨18,0,0⟩]).bind _ = _
     rw [bnd (RA [⟨1,(cntS l i : Int),0⟩] ⟨18,0,0⟩ (by simp) (bdI_plain (by simp) rfl))]
 | sel h n k =>
   obtain ⟨C,e1,b⟩ := OQ hl slf i j x hx n h k ks hk hij hB (fun p a b => hn p (by omega) b)
   refine ⟨C,?_,b⟩
   rw [beqf (by omega),beqf (by omega)]
   unfold AJ
   rw [beqf (show ¬ x.Op = 20 by omega),beqf (show ¬ x.Op = 21 by omega),beqf (show ¬ x.Op = 22 by omega),beqf (show ¬ x.Op = 27 by omega),beqf (show ¬ x.Op = 28 by omega),beqf (show ¬ x.Op = 29 by omega),beqf (show ¬ x.Op = 30 by omega),beqf (show ¬ x.Op = 31 by omega),beqf (show ¬ x.Op = 26 by omega),beqt h]
   show (Eb slf l P i).bind _ = _
   rw [bnd e1]
 | if2 h k =>
   obtain ⟨a,p1,p2,rfl⟩ := hk.two
   have l1 := p1.le.2.1 (by simp); have l2 := p2.le.2.1 (by simp)
   obtain ⟨T,e1,t1⟩ := Iu hl 4000 (i + 1) a p1 (by omega) (fun p a b => hn p (by omega) (by omega))
   obtain ⟨B,e2,b2⟩ := hB a j p2 (by omega) (by omega)
   have kd := Hw hl hx (.if2 h k) hk 1 (by simp)
   obtain ⟨C,e3,b3⟩ := RE hl hx hst hij.1 hij.2 (e := evOf P nv) ⟨by omega,by omega⟩ t1 b2 (FC p1 (by simp [GD]) (by omega))
   refine ⟨C,?_,b3⟩
   have ej := P0 [⟨1,(cntS l i : Int),0⟩] T _ t1 (by omega) (by simp)
   rw [bnd ej] at e3
   rw [beqf (by omega),beqf (by omega)]
   unfold AJ
   rw [beqf (show ¬ x.Op = 20 by omega),beqf (show ¬ x.Op = 21 by omega),beqf (show ¬ x.Op = 22 by omega),beqf (show ¬ x.Op = 27 by omega),beqf (show ¬ x.Op = 28 by omega),beqf (show ¬ x.Op = 29 by omega),beqf (show ¬ x.Op = 30 by omega),beqf (show ¬ x.Op = 31 by omega),beqf (show ¬ x.Op = 26 by omega),beqf (show ¬ x.Op = 25 by omega),beqf (show ¬ x.Op = 24 by omega),beqt k]
   show (Be l P (w64 ((i : Int) + 1))).bind _ = _
   rw [w64s (by omega),bnd (show Be l P ((i + 1 : Nat) : Int) = some T from e1),bnd ej]
   show (AD l i ((1 : Nat) : Int)).bind _ = _
   rw [bnd kd]
   show (slf l P (a : Int)).bind _ = _
   rw [bnd e2]
   exact e3
 | if3 h k =>
   obtain ⟨a,c,p1,p2,p3,rfl⟩ := hk.three
   have l1 := p1.le.2.1 (by simp); have l2 := p2.le.2.1 (by simp); have l3 := p3.le.2.1 (by simp)
   obtain ⟨T,e1,t1⟩ := Iu hl 4000 (i + 1) a p1 (by omega) (fun p a b => hn p (by omega) (by omega))
   obtain ⟨B,e2,b2⟩ := hB a c p2 (by omega) (by omega)
   obtain ⟨B2,e2',b2'⟩ := hB c j p3 (by omega) (by omega)
   have kd := Hw hl hx (.if3 h k) hk 1 (by simp)
   have kd2 := Hw hl hx (.if3 h k) hk 2 (by simp)
   obtain ⟨C,e3,b3⟩ := RD hl hx hst hij.1 hij.2 (e := evOf P nv) ⟨by omega,by omega,by omega⟩ t1 b2 b2' (FC p1 (by simp [GD]) (by omega))
   refine ⟨C,?_,b3⟩
   have ej := P0 [⟨1,(cntS l i : Int),0⟩] T _ t1 (by omega) (by simp)
   rw [bnd ej] at e3
   rw [beqf (by omega),beqf (by omega)]
   unfold AJ
   rw [beqf (show ¬ x.Op = 20 by omega),beqf (show ¬ x.Op = 21 by omega),beqf (show ¬ x.Op = 22 by omega),beqf (show ¬ x.Op = 27 by omega),beqf (show ¬ x.Op = 28 by omega),beqf (show ¬ x.Op = 29 by omega),beqf (show ¬ x.Op = 30 by omega),beqf (show ¬ x.Op = 31 by omega),beqf (show ¬ x.Op = 26 by omega),beqf (show ¬ x.Op = 25 by omega),beqf (show ¬ x.Op = 24 by omega),beqf (show ¬ x.Kids = 2 by omega)]
   show (Be l P (w64 ((i : Int) + 1))).bind _ = _
   rw [w64s (by omega),bnd (show Be l P ((i + 1 : Nat) : Int) = some T from e1),bnd ej]
   show (AD l i ((1 : Nat) : Int)).bind _ = _
   rw [bnd kd]
   show (slf l P (a : Int)).bind _ = _
   rw [bnd e2]
   show (AD l i ((2 : Nat) : Int)).bind _ = _
   rw [bnd kd2]
   show (slf l P (c : Int)).bind _ = _
   rw [bnd e2']
   exact e3
 | «while» h k =>
   obtain ⟨a,p1,p2,rfl⟩ := hk.two
   have l1 := p1.le.2.1 (by simp); have l2 := p2.le.2.1 (by simp)
   obtain ⟨T,e1,t1⟩ := Iu hl 4000 (i + 1) a p1 (by omega) (fun p a b => hn p (by omega) (by omega))
   obtain ⟨B,e2,b2⟩ := hB a j p2 (by omega) (by omega)
   have kd := Hw hl hx (.while h k) hk 1 (by simp)
   obtain ⟨C,e3,b3⟩ := PL hl hx hst hij.1 hij.2 (e := evOf P nv) ⟨by omega,by omega⟩ t1 b2 (FC p1 (by simp [GD]) (by omega)) slf
   refine ⟨C,?_,b3⟩
   have ej := P0 [⟨1,(cntS l i : Int),0⟩] T _ t1 (by omega) (by simp)
   rw [bnd ej] at e3
   rw [beqf (by omega),beqf (by omega)]
   unfold AJ
   rw [beqf (show ¬ x.Op = 20 by omega),beqf (show ¬ x.Op = 21 by omega),beqf (show ¬ x.Op = 22 by omega),beqf (show ¬ x.Op = 27 by omega),beqf (show ¬ x.Op = 28 by omega),beqf (show ¬ x.Op = 29 by omega),beqf (show ¬ x.Op = 30 by omega),beqf (show ¬ x.Op = 31 by omega),beqf (show ¬ x.Op = 26 by omega),beqf (show ¬ x.Op = 25 by omega),beqt h]
   show (Be l P (w64 ((i : Int) + 1))).bind _ = _
   rw [w64s (by omega),bnd (show Be l P ((i + 1 : Nat) : Int) = some T from e1),bnd ej]
   show (AD l i ((1 : Nat) : Int)).bind _ = _
   rw [bnd kd]
   show (slf l P (a : Int)).bind _ = _
   rw [bnd e2]
   exact e3
theorem Qa {l : List Aa} {P : Ah} {nv : Nat} (hl : l.length ≤ 3000) (slf : ND) (lo hi : Nat) (hB : ∀ b j',Pcs l [.B] b j' [b] → lo ≤ b → j' ≤ hi → ∃ C,slf l P b = some C ∧ BlkC l (evOf P nv) C b j') (hn : ∀ p,lo ≤ p → p < hi → NdF l P nv p) (hhi : hi ≤ l.length) {cs : List Cls} {i k : Nat} {ss : List Nat} (h : Pcs l cs i k ss) : (∀ c ∈ cs,c = .S) → lo ≤ i → k ≤ hi → ∀ (ks : List Nat) (q : Nat) (acc : List Ac),ks.drop q = ss → q ≤ ks.length → q ≤ i → i ≤ l.length → BlkC l (evOf P nv) acc lo i →
    ∃ C,Loop (fun s : (Int × (List Ac)) => Cw slf l P (DK ks) s.1 s.2) ((q : Int),acc) = some C ∧ BlkC l (evOf P nv) C lo k := by
 induction h with
 | nil i =>
   intro _ _ _ ks q acc hd hq hqi hil hacc
   have : ks.length ≤ q := by simpa using hd
   refine ⟨acc,Loop_inr ?_,hacc⟩
   show Cw slf l P (DK ks) q acc = _
   unfold Cw
   rw [dcf (by simp; omega)]; rfl
 | cons c cs i j k x kc ks' ss hx hs hk hr ih1 ih2 =>
   intro hc h0 h1 ks q acc hd hq hqi hil hacc
   have hcc := hc c (by simp)
   subst hcc
   have hp := Pcs.mk1 hx hs hk
   have l1 := hp.le.2.1 (by simp); have l2 := hr.le.1
   have hql : q < ks.length := by
    rcases Nat.lt_or_ge q ks.length with h | h
    · exact h
    · rw [List.drop_eq_nil_of_le h] at hd; cases hd
   rw [List.drop_eq_getElem_cons hql] at hd
   injection hd with hd1 hd2
   obtain ⟨D,e1,t1⟩ := stmt_code hl slf i j hp (fun b j' hb a c => hB b j' hb (by omega) (by omega)) (fun p a b => hn p (by omega) (by omega))
   have hlen := hacc.len
   obtain ⟨C,e2,r2⟩ := ih2 (fun d hd => hc d (by simp [hd])) (by omega) h1 ks (q + 1) (jn acc D) hd2 (by omega) (by omega) (by omega) (hacc.app t1 (by omega) (by omega))
   refine ⟨C,?_,r2⟩
   have st : Cw slf l P (DK ks) q acc = some (.inl (((q + 1 : Nat) : Int),jn acc D)) := by
    unfold Cw
    rw [dct (by simp; omega),Gw (by simpa using hql)]
    have : (DK ks)[q]'(by simpa using hql) = (i : Int) := by simp [hd1]
    rw [this,bnd rfl,bnd e1,bnd (TM acc D t1 (by omega) (by omega)),w64s (by omega)]; rfl
   rw [Loop_inl st]; exact e2
theorem M0 {l : List Aa} {P : Ah} {nv : Nat} (hl : l.length ≤ 3000) : ∀ (fuel i j : Nat),Pcs l [.B] i j [i] → j - i < fuel → (∀ p,i ≤ p → p < j → NdF l P nv p) → ∃ C,B7 fuel l P i = some C ∧ BlkC l (evOf P nv) C i j
 | 0,i,j,_,h,_ => by omega
 | fuel + 1,i,j,hp,hf,hn => by
   have hij := hp.le.2.1 (by simp)
   obtain ⟨x,kc,ks,hx,hs,hk,_⟩ := hp.at_
   rw [show B7 (fuel + 1) l P i = FJ (B7 fuel) l P i from rfl]
   unfold FJ
   rw [bnd (J5 hl hx hs hk)]
   have c0 : cntS l (i + 1) = cntS l i := by
    have h1 := IY l i x hx
    have h2 : isSt x = false := by
     cases hs with
     | block h n k => unfold isSt; rw [h]; rfl
    rw [h2] at h1
    simpa using h1
   have hall : ∀ c ∈ kc,c = .S := by
    cases hs with
    | block h n k => intro c hc; exact (List.mem_replicate.mp hc).2
   obtain ⟨C,e1,b⟩ := Qa (nv := nv) hl (B7 fuel) (i + 1) j (fun b j' hb a c => M0 hl fuel b j' hb (by omega) (fun p x y => hn p (by omega) (by omega))) (fun p a b => hn p (by omega) b) hij.2 hk hall (by omega) (by omega) ks 0 [] rfl (by omega) (by omega) (by omega) (BlkC.nil _ _ _)
   refine ⟨C,e1,?_⟩
   obtain ⟨M,b1,b2,b3,b4,b5⟩ := b
   exact ⟨M,b1,by omega,b3,b4,by rw [b5,c0]⟩
end Go.Ab
end
section
namespace Go.Ab
set_option linter.unusedVariables false
abbrev anEnd : An := (⟨24,0,0⟩,S0)
def flat : List (List An) → List An
 | [] => []
 | M :: r => M ++ anEnd :: flat r
theorem Lj : ∀ a b : List (List An),flat (a ++ b) = flat a ++ flat b
 | [],_ => rfl
 | M :: a,b => by simp [flat,Lj a b]
theorem Nj (M : List An) : flat [M] = M ++ [anEnd] := rfl
def off (sg : List (List An)) (i : Nat) : Nat := (flat (sg.take i)).length
theorem Pk (sg : List (List An)) (i : Nat) (h : i < sg.length) : off sg (i + 1) = off sg i + sg[i].length + 1 := by
 unfold off
 rw [HY h,Lj,Nj]
 simp; omega
theorem Na (sg : List (List An)) : off sg sg.length = (flat sg).length := by unfold off; rw [List.take_length]
theorem QA (sg : List (List An)) (i : Nat) : ∀ d,i + d ≤ sg.length → off sg i ≤ off sg (i + d)
 | 0,_ => Nat.le_refl _
 | d + 1,h => by
   have := QA sg i d (by omega)
   have h2 := Pk sg (i + d) (by omega)
   rw [show i + (d + 1) = i + d + 1 by omega,h2]; omega
theorem P4 (sg : List (List An)) (i : Nat) (h : i < sg.length) : flat sg = flat (sg.take i) ++ (sg[i] ++ anEnd :: flat (sg.drop (i + 1))) := by
 have e : sg = sg.take i ++ sg[i] :: sg.drop (i + 1) := by rw [← List.drop_eq_getElem_cons h,List.take_append_drop]
 have e2 : flat sg = flat (sg.take i ++ sg[i] :: sg.drop (i + 1)) := congrArg flat e
 rw [e2,Lj]; rfl
theorem TH {sg : List (List An)} {c : Au} (hc : c.Ins = absL 0 (flat sg)) (hs : c.Ins.length ≤ 100000) (i : Nat) (h : i < sg.length) {e : Ev} (hf : Frag e sg[i] S0 S0) (hm : sg[i] = [] ∨ ∃ a r,sg[i] = a :: r ∧ a.1.Op = 1) : ∃ S,Rt e c (off sg i) (off sg (i + 1)) S := by
 have hu := Pk sg i h
 have hle := QA sg (i + 1) (sg.length - (i + 1)) (by omega)
 rw [show i + 1 + (sg.length - (i + 1)) = sg.length by omega,Na] at hle
 have hl : c.Ins.length = (flat sg).length := by rw [hc,BK]
 have hi : c.Ins = absL 0 (flat (sg.take i)) ++ (absL (off sg i : Int) sg[i] ++ (⟨24,0,0⟩ :: absL ((off sg i : Int) + sg[i].length + 1) (flat (sg.drop (i + 1))))) := by
  rw [hc,P4 sg i h,IL,IL]
  simp [absL,off]
  rfl
 refine ⟨fun q => stA sg[i] S0 (q - (off sg i : Int)).toNat,hs,by omega,by omega,by omega,fun p p0 p1 => ?_,?_,fun x hx => ?_⟩
 · obtain ⟨x,a,b,d⟩ := hf.okA (absL 0 (flat (sg.take i))) (absL ((off sg i : Int) + sg[i].length + 1) (flat (sg.drop (i + 1)))) (off sg i) (by rw [BK]; rfl) (off sg (i + 1)) (by omega) c.Ins hi p p0 p1
   exact ⟨x,a,b,d⟩
 · show stA sg[i] S0 ((off sg i : Int) - (off sg i : Int)).toNat = S0
   rw [show ((off sg i : Int) - (off sg i : Int)).toNat = 0 by omega]
   exact hf.beg
 · have hx2 : c.Ins[off sg i]? = some x := by rw [← lAtn]; exact hx
   rw [hi,List.getElem?_append_right (by rw [BK]; exact Nat.le_refl _)] at hx2
   rw [show off sg i - (absL 0 (flat (sg.take i))).length = 0 by rw [BK]; show off sg i - off sg i = 0; omega] at hx2
   rcases hm with hm | ⟨a,r,hm,ha⟩
   · rw [hm] at hx2
     have : some (⟨24,0,0⟩ : Ac) = some x := hx2
     cases this
     exact .inr rfl
   · rw [hm] at hx2
     have : some (absI (off sg i : Int) a.1) = some x := hx2
     cases this
     exact .inl (by rw [absI_op]; exact ha)
theorem mk_order (l : List Ac) (n : Nat) (h : ((l.filter fun x => x.Op == 1).map fun x => x.A) = rng 0 n) : (∀ (p : Nat) (x : Ac),l[p]? = some x → x.Op = 1 → x.A = mkc l p) ∧ (n : Int) = mkc l l.length := by
 have hn : (l.filter fun x => x.Op == 1).length = n := by
  have := congrArg List.length h
  simpa [rng] using this
 refine ⟨fun p x hx ho => ?_,?_⟩
 · have hp : p < l.length := (List.getElem?_eq_some_iff.mp hx).1
   have e : l = l.take p ++ x :: l.drop (p + 1) := by
    have hxx : l[p] = x := by rw [List.getElem?_eq_getElem hp] at hx; exact Option.some.inj hx
    rw [← hxx,← List.drop_eq_getElem_cons hp,List.take_append_drop]
   have e2 : (l.filter fun x => x.Op == 1) = ((l.take p).filter fun x => x.Op == 1) ++ x :: ((l.drop (p + 1)).filter fun x => x.Op == 1) := by
    have := congrArg (List.filter fun x : Ac => x.Op == 1) e
    rw [this,List.filter_append,List.filter_cons,if_pos (by simpa using ho)]
   have e3 : ((l.filter fun x => x.Op == 1).map fun x => x.A)[((l.take p).filter fun x => x.Op == 1).length]? = some x.A := by
    rw [e2]; simp
   rw [h] at e3
   unfold rng at e3
   rw [List.getElem?_map] at e3
   obtain ⟨y,hy,hy2⟩ := Option.map_eq_some_iff.mp e3
   rw [List.getElem?_range'] at hy
   · unfold mkc
     cases hy
     omega
   · have := congrArg List.length e2
     simp at this
     omega
 · unfold mkc
   rw [List.take_length,hn]
theorem QH : ∀ (M : List An) (k : Int),((absL k M).filter fun x => x.Op == 1).map (fun x => x.A) = mkM M
 | [],_ => rfl
 | a :: M,k => by
   have ih := QH M (k + 1)
   unfold mkM at *
   simp only [absL,List.filter_cons,absI_op]
   by_cases h : a.1.Op = 1
   · rw [if_pos (by simpa using h),if_pos (by simpa using h),List.map_cons,List.map_cons,ih]
     congr 1
     unfold absI
     rw [if_neg (by omega),if_neg (by rw [h]; decide)]
   · rw [if_neg (by simpa using h),if_neg (by simpa using h),ih]
theorem OP (cs : List Ak) (hl : cs.length ≤ 100000) (x : Ac) (h : ∃ c ∈ cs,c.Base = x.A ∧ c.Size = x.B) : AI cs x = some true := by
 obtain ⟨c,hc,h1,h2⟩ := h
 obtain ⟨n,hn,rfl⟩ := List.getElem_of_mem hc
 have key : ∀ (d k : Nat),k + d = n → ∃ m : Int,Loop (fun s : Int => Ay cs x s) (k : Int) = some m ∧ 0 ≤ m := by
  have found : ∀ k : Nat,(hk : k < cs.length) → (cs[k].Base = x.A ∧ cs[k].Size = x.B) → ∃ m : Int,Loop (fun s : Int => Ay cs x s) (k : Int) = some m ∧ 0 ≤ m := by
   intro k hk ⟨a,b⟩
   refine ⟨k,Loop_inr ?_,by omega⟩
   show Ay cs x k = _
   unfold Ay Gt En
   rw [dct (by omega),bnd (Gw hk),beqt a,beqt b]; rfl
  intro d
  induction d with
  | zero => intro k hk; exact found k (by omega) (by have : k = n := by omega
                                                     subst this; exact ⟨h1,h2⟩)
  | succ d ih =>
    intro k hk
    have hkl : k < cs.length := by omega
    by_cases hb : cs[k].Base = x.A ∧ cs[k].Size = x.B
    · exact found k hkl hb
    · obtain ⟨m,e1,e2⟩ := ih (k + 1) (by omega)
      refine ⟨m,?_,e2⟩
      have st : Ay cs x k = some (.inl ((k + 1 : Nat) : Int)) := by
       unfold Ay Gt En
       rw [dct (by omega),bnd (Gw hkl),w64s (by omega)]
       by_cases ha : cs[k].Base = x.A
       · rw [beqt ha,beqf (fun h => hb ⟨ha,h⟩)]; rfl
       · rw [beqf ha]; rfl
      rw [Loop_inl st]; exact e1
 obtain ⟨m,e1,e2⟩ := key n 0 (by omega)
 unfold AI BJ
 rw [show ((0 : Nat) : Int) = 0 from rfl] at e1
 rw [bnd e1,dct e2]
end Go.Ab
end
section
namespace Go.Ab
set_option linter.unusedVariables false
theorem Pcs.nilEq {l : List Aa} {i j : Nat} {ss : List Nat} (h : Pcs l [] i j ss) : j = i := by cases h; rfl
theorem Pcs.unapp {l : List Aa} : ∀ (cs : List Cls) {ds : List Cls} {i k : Nat} {ss : List Nat},Pcs l (cs ++ ds) i k ss → ∃ j s1 s2,Pcs l cs i j s1 ∧ Pcs l ds j k s2 ∧ ss = s1 ++ s2
 | [],_,i,_,ss,h => ⟨i,[],ss,.nil i,h,rfl⟩
 | c :: cs,_,_,_,_,h => by
   obtain ⟨m,ts,p1,p2,rfl⟩ := Pcs.split h
   obtain ⟨j,s1,s2,a,b,rfl⟩ := Pcs.unapp cs p2
   exact ⟨j,_ :: s1,s2,Pcs.app p1 a,b,rfl⟩
theorem Pcs.next {l : List Aa} {cs : List Cls} {i k : Nat} {ss : List Nat} (h : Pcs l cs i k ss) : (∀ (q : Nat) (hq : q < cs.length) (hq' : q < ss.length),Pcs l [cs[q]] ss[q] (if h : q + 1 < ss.length then ss[q + 1] else k) [ss[q]]) ∧ (if h : 0 < ss.length then ss[0] else k) = i := by
 induction h with
 | nil i => exact ⟨fun q hq => (by cases hq),rfl⟩
 | cons c cs i j k x kc ks ss hx hs hk hr ih1 ih2 =>
   refine ⟨fun q hq hq' => ?_,rfl⟩
   cases q with
   | zero =>
     have e : (if h : 0 + 1 < (i :: ss).length then (i :: ss)[0 + 1] else k) = j := by
      rw [← ih2.2]
      by_cases h : 0 < ss.length
      · rw [dif_pos (by simpa using h),dif_pos h]; rfl
      · rw [dif_neg (by simpa using h),dif_neg h]
     rw [e]; exact Pcs.mk1 hx hs hk
   | succ q =>
     have := ih2.1 q (by simpa using hq) (by simpa using hq')
     have e : (if h : q + 1 + 1 < (i :: ss).length then (i :: ss)[q + 1 + 1] else k) = (if h : q + 1 < ss.length then ss[q + 1] else k) := by
      by_cases h : q + 1 < ss.length
      · rw [dif_pos (by simpa using h),dif_pos h]; rfl
      · rw [dif_neg (by simpa using h),dif_neg h]
     rw [e]
     simpa using this
theorem Pcs.pars {l : List Aa} {cs : List Cls} {i k : Nat} {ss : List Nat} (h : Pcs l cs i k ss) : (∀ c ∈ cs,c = .P) → ∀ p,i ≤ p → p < k → isSt (nd l p) = false := by
 induction h with
 | nil i => intro _ p h1 h2; omega
 | cons c cs i j k x kc ks ss hx hs hk hr ih1 ih2 =>
   intro hc p h1 h2
   have := hc c (by simp)
   subst this
   cases hs with
   | par h k =>
     cases hk
     rcases Nat.lt_or_ge p (i + 1) with h3 | h3
     · have : p = i := by omega
       subst this
       rw [JT hx]; unfold isSt; rw [h]; rfl
     · exact ih2 (fun c hc' => hc c (by simp [hc'])) p h3 h2
def IN (l : List Aa) (ds : List Nat) (n : Nat) : Nat := if h : n < ds.length then ds[n] else l.length
section
variable {l : List Aa} {ds : List Nat} (u : Un l ds)
include u
theorem Un.routine_block {r e : Nat} (h : IsR l ds r e) : ∃ b : Nat,AD l r (w64 ((nd l r).Kids - 1)) = some (b : Int) ∧ Pcs l [.B] b e [b] ∧ r < b ∧ cntS l b = cntS l r := by
 have hin := u.inR h
 obtain ⟨q,hq,rfl,h38,hp⟩ := h
 obtain ⟨x,kc,ks,hx,hs,hk,_⟩ := hp.at_
 have nx := JT hx
 rw [nx] at h38
 have c0 : isSt x = false → cntS l (ds[q] + 1) = cntS l ds[q] := fun h => by rw [IY l _ x hx,h]; rfl
 cases hs with
 | chan h => exact absurd h h38
 | main h k =>
   obtain ⟨b,ts,p1,p2,rfl⟩ := hk.split
   cases p2
   refine ⟨ds[q] + 1,?_,p1,by omega,c0 (by unfold isSt; rw [h]; rfl)⟩
   rw [nx,k]
   exact Hw u.hl hx (.main h k) hk 0 (by simp)
 | proc h n k nm =>
   obtain ⟨j,s1,s2,a,b,rfl⟩ := Pcs.unapp _ hk
   obtain ⟨m,ts,p1,p2,rfl⟩ := b.split
   cases p2
   have hl1 := a.le; have hl2 := p1.le.2.1 (by simp)
   have hlen : s1.length = n := by have := hl1.2.2; simpa using this
   refine ⟨j,?_,p1,by omega,?_⟩
   · have hn : n ≤ 3000 := by
       have key : ∀ {cs : List Cls} {i k : Nat} {ss : List Nat},Pcs l cs i k ss → cs.length ≤ k - i := by
        intro cs i k ss h
        induction h with
        | nil i => simp
        | cons c cs i j k x kc ks ss hx hs hk hr ih1 ih2 => have := hk.le; have := hr.le; simp; omega
       have := key a; have := u.hl
       simp at *; omega
     rw [nx,k,show (n : Int) + 1 - 1 = (n : Int) by omega,w64i (by omega) (by omega)]
     have := Hw u.hl hx (.proc h n k nm) hk n (by simp; omega)
     rw [this]
     have e : (s1 ++ [j])[n]'(by simp; omega) = j := by
      subst hlen; simp
     rw [e]
   · have e1 := Mw l (ds[q] + 1) (j - (ds[q] + 1)) (by omega) (fun p a1 b1 => a.pars (fun c hc => (List.mem_replicate.mp hc).2) p a1 (by omega))
     rw [show ds[q] + 1 + (j - (ds[q] + 1)) = j by omega] at e1
     rw [e1,c0 (by unfold isSt; rw [h]; rfl)]
theorem Un.dend (q : Nat) (h : q < ds.length) : Pcs l [.D] ds[q] (IN l ds (q + 1)) [ds[q]] := by
 have := u.hd.next.1 q (by simpa using h) h
 rw [List.getElem_replicate] at this
 exact this
theorem Un.start0 : IN l ds 0 = 1 := u.hd.next.2
theorem Un.cnt0 : cntS l (IN l ds 0) = 0 := by
 rw [u.start0]
 obtain ⟨x,hx,ho⟩ := u.op0
 rw [IY l 0 x hx]
 unfold isSt
 rw [ho]; rfl
omit u in
theorem NQ (q : Nat) (h : q < ds.length) : IN l ds q = ds[q] := by unfold IN; rw [dif_pos h]
theorem Un.same_start : ∀ (d m : Nat),m + d ≤ ds.length → cN l ds false (m + d) = cN l ds false m → cntS l (IN l ds (m + d)) = cntS l (IN l ds m) ∧ IN l ds m ≤ IN l ds (m + d)
 | 0,m,_,_ => ⟨rfl,Nat.le_refl _⟩
 | d + 1,m,h,hc => by
   have hu := Of (l := l) (ds := ds) false (m + d) (by omega)
   have hmono : cN l ds false m ≤ cN l ds false (m + d) := by
    have key : ∀ d,m + d ≤ ds.length → cN l ds false m ≤ cN l ds false (m + d) := by
     intro d
     induction d with
     | zero => intro _; exact Nat.le_refl _
     | succ d ih =>
       intro hd
       have := ih (by omega)
       have := Of (l := l) (ds := ds) false (m + d) (by omega)
       rw [show m + (d + 1) = m + d + 1 by omega,this]; omega
    exact key d (by omega)
   rw [show m + (d + 1) = m + d + 1 by omega,hu] at hc
   have h38 : (nd l ds[m + d]).Op = 38 := by
    by_cases h38 : (nd l ds[m + d]).Op = 38
    · exact h38
    · rw [beqf h38] at hc
      simp at hc
      omega
   rw [h38] at hc
   simp at hc
   obtain ⟨e1,e2⟩ := Un.same_start d m (by omega) hc
   have hp := u.dend (m + d) (by omega)
   obtain ⟨x,kc,ks,hx,hs,hk,_⟩ := hp.at_
   have h38x := h38
   rw [JT hx] at h38
   have hj : IN l ds (m + d + 1) = ds[m + d] + 1 := by
    cases hs with
    | chan h => exact hk.nilEq
    | main h => omega
    | proc h => omega
   rw [show m + (d + 1) = m + d + 1 by omega,hj,IY l _ x hx]
   rw [NQ (m + d) (by omega)] at e1 e2
   have : isSt x = false := by unfold isSt; rw [h38]; rfl
   rw [this]
   exact ⟨by simpa using e1,by omega⟩
end
structure OInv (l : List Aa) (ds : List Nat) (P : Ah) (k : Nat) (ins : List Ac) (defs : List Ao) (sg : List (List An)) : Prop where
 sl : sg.length = k
 ie : ins = absL 0 (flat sg)
 dl : defs.length = k
 at_ : ∀ (q : Nat) (h : q < sg.length),∃ rt,P.Routines[q]? = some rt ∧ defs[q]? = some ⟨rt.Name,(off sg q : Int),rt.Params,(rt.Vars.length : Int)⟩ ∧ Frag (evOf P rt.Vars.length) sg[q] S0 S0 ∧ (sg[q] = [] ∨ ∃ a r,sg[q] = a :: r ∧ a.1.Op = 1) ∧ rt.Vars.length ≤ 16 ∧ (rt.Name = Q6 ∨ nmOK rt.Name) ∧ 0 ≤ rt.Params ∧ rt.Params ≤ rt.Vars.length
 mk_ : ∀ n,n ≤ ds.length → cN l ds false n = k → mkM (flat sg) = rng 0 (cntS l (IN l ds n)) ∧ (flat sg).length ≤ 5 * IN l ds n
theorem OInv.check {l : List Aa} {ds : List Nat} {P : Ah} (h : P14 l ds P) {ins : List Ac} {defs : List Ao} {sg : List (List An)} (hk : OInv l ds P P.Routines.length ins defs sg) (hs : ins.length ≤ 400) : Cr ⟨ins,defs,P.Chans,P.Main,(cntS l l.length : Int)⟩ = some (0,0) := by
 have hdl := h.u.dsl
 have hsl := hk.sl; have hdfl := hk.dl
 have hrl := h.p.rt.len
 have hcl := h.p.ch.len
 have hct := MZ (l := l) (ds := ds) true ds.length
 have hie := hk.ie
 have hil : ins.length = (flat sg).length := by rw [hie,BK]
 have hrou := h.d.rou
 have da : ∀ (q : Nat) (hq : q < defs.length),∃ rt,P.Routines[q]? = some rt ∧ defs[q] = ⟨rt.Name,(off sg q : Int),rt.Params,(rt.Vars.length : Int)⟩ ∧ rt.Vars.length ≤ 16 ∧ (rt.Name = Q6 ∨ nmOK rt.Name) ∧ 0 ≤ rt.Params ∧ rt.Params ≤ rt.Vars.length := by
  intro q hq
  obtain ⟨rt,r1,r2,r3,r4,r5,r6,r7,r8⟩ := hk.at_ q (by omega)
  rw [List.getElem?_eq_getElem hq] at r2
  exact ⟨rt,r1,Option.some.inj r2,r5,r6,r7,r8⟩
 obtain ⟨qm,hqm,qm1,qm2,qm3⟩ := h.p.mn (by obtain ⟨q,hq,h41⟩ := h.d.main; exact ⟨q,hq,hq,h41⟩)
 obtain ⟨rtm,rm1,rm2⟩ := h.p.rt.at_ qm hqm qm1 (by omega)
 have hmk : cN l ds false qm < P.Routines.length := (List.getElem?_eq_some_iff.mp rm1).1
 have offs : ∀ q,q < sg.length → off sg q < off sg (q + 1) := fun q hq => by have := Pk sg q hq; omega
 have offl : ∀ q,q < sg.length → off sg q < (flat sg).length := fun q hq => by
  have h1 := Pk sg q hq
  have h2 := QA sg (q + 1) (sg.length - (q + 1)) (by omega)
  rw [show q + 1 + (sg.length - (q + 1)) = sg.length by omega,Na] at h2
  omega
 have toE : ∀ (i : Nat) (hi : i < defs.length),toOf ⟨ins,defs,P.Chans,P.Main,(cntS l l.length : Int)⟩ i = (off sg (i + 1) : Int) := by
  intro i hi
  unfold toOf
  by_cases h1 : i + 1 < defs.length
  · rw [dif_pos h1]
    obtain ⟨rt,_,r2,_⟩ := da (i + 1) h1
    show (defs[i + 1]).Entry = _
    rw [r2]
  · rw [dif_neg h1]
    have : i + 1 = sg.length := by show i + 1 = sg.length; have : ¬ i + 1 < defs.length := h1; omega
    rw [this,Na]
    show (ins.length : Int) = _
    omega
 refine RX ⟨by show 1 ≤ defs.length; omega,by show defs.length ≤ 32; omega,by show ins.length ≤ 65536; omega,?_,?_,by show P.Chans.length ≤ 100000; omega,h.p.ch.ok⟩ ⟨fun i hi => ?_,?_,?_,fun h0 => ?_⟩
 · obtain ⟨rt,r1,r2,_⟩ := da (cN l ds false qm) (by omega)
   rw [rm1] at r1; cases r1
   refine ⟨defs[cN l ds false qm]'(by omega),by show 0 ≤ P.Main; omega,?_,?_⟩
   · show lAt defs P.Main = _
     rw [qm3]; exact Gw (by omega)
   · rw [r2]
     obtain ⟨_,e,_,_,_,hp⟩ := rm2.h
     exact hp qm2
 · show dfOK (ins.length : Int) defs (-1)
   have key : ∀ (n k : Nat) (w : Int),k + n = defs.length → (k = 0 → w = -1) → (∀ k',k = k' + 1 → w = (off sg k' : Int)) → dfOK (ins.length : Int) (defs.drop k) w := by
    intro n
    induction n with
    | zero => intro k w hk' _ _; rw [List.drop_eq_nil_of_le (by omega)]; trivial
    | succ n ih =>
      intro k w hk' h0 h1
      have hkl : k < defs.length := by omega
      obtain ⟨rt,r1,r2,r5,r6,r7,r8⟩ := da k hkl
      rw [List.drop_eq_getElem_cons hkl,r2]
      have ol := offl k (by omega)
      refine ⟨r6,fun hw => ?_,?_,by show (off sg k : Int) < ins.length; omega,r7,r8,by show (rt.Vars.length : Int) ≤ 16; omega,ih (k + 1) _ (by omega) (by omega) (fun k' hk'' => by rw [show k' = k by omega])⟩
      · show (off sg k : Int) = 0
        cases k with
        | zero => rfl
        | succ k' => have := h1 k' rfl; omega
      · show w < (off sg k : Int)
        cases k with
        | zero => have := h0 rfl; omega
        | succ k' =>
          have := h1 k' rfl
          have := offs k' (by omega)
          omega
   exact key defs.length 0 (-1) (by omega) (fun _ => rfl) (fun k' h => by omega)
 · show ∃ e S,Rt e _ (defs[i]'hi).Entry _ S ∧ _ ∧ e.nv = (defs[i]'hi).Vars
   have hi' : i < sg.length := by have : i < defs.length := hi; omega
   obtain ⟨rt,r1,r2,r3,r4,_⟩ := hk.at_ i hi'
   have r2' : defs[i] = (⟨rt.Name,(off sg i : Int),rt.Params,(rt.Vars.length : Int)⟩ : Ao) := by
    rw [List.getElem?_eq_getElem hi] at r2
    exact Option.some.inj r2
   obtain ⟨S,hS⟩ := TH (c := ⟨ins,defs,P.Chans,P.Main,(cntS l l.length : Int)⟩) hie (by show ins.length ≤ 100000; omega) i hi' r3 r4
   refine ⟨evOf P rt.Vars.length,S,?_,⟨fun x hx => OP P.Chans (by omega) x hx,fun a b hab => ?_⟩,?_⟩
   · rw [toE i hi,r2']; exact hS
   · obtain ⟨rt2,p1,p2⟩ := hab
     have hr := lAt_rng p1
     obtain ⟨n,rfl⟩ := Int.eq_ofNat_of_zero_le hr.1
     rw [lAtn] at p1
     obtain ⟨rt3,s1,s2,_⟩ := da n (by omega)
     rw [p1] at s1; cases s1
     have hnd : n < defs.length := by omega
     refine ⟨by omega,by show (n : Int) < defs.length; omega,defs[n],Gw hnd,?_⟩
     rw [s2]; exact p2
   · rw [r2']; rfl
 all_goals
  have hm := hk.mk_ ds.length (by omega) hrl.symm
  have hst : IN l ds ds.length = l.length := by unfold IN; rw [dif_neg (by omega)]
  rw [hst] at hm
  have hord := mk_order ins (cntS l l.length) (by rw [hie,QH]; exact hm.1)
 · exact hord.1
 · exact hord.2
 · obtain ⟨rt,_,r2,_⟩ := da 0 h0
   show (defs[0]).Entry = 0
   rw [r2]; rfl
end Go.Ab
end
section
namespace Go.Ab
set_option linter.unusedVariables false
theorem Pl (sg : List (List An)) (M : List An) (q : Nat) (h : q ≤ sg.length) : off (sg ++ [M]) q = off sg q := by
 unfold off; rw [List.take_append_of_le_length h]
theorem OInv.step {l : List Aa} {ds : List Nat} {P : Ah} (h : P14 l ds P) {k : Nat} {ins : List Ac} {defs : List Ao} {sg : List (List An)} (hk : OInv l ds P k ins defs sg) {rt : Aq} (hr : P.Routines[k]? = some rt) :
    ∃ (b : Nat) (C : List Ac) (M : List An) (y : Aa),lAt l rt.Node = some y ∧ AD l rt.Node (w64 (y.Kids - 1)) = some (b : Int) ∧ Hy l P b = some C ∧ C = absL 0 M ∧ RB M ∧ ins.length ≤ 15000 ∧
      OInv l ds P (k + 1) (absL 0 (flat (sg ++ [M]))) (defs ++ [⟨rt.Name,(ins.length : Int),rt.Params,(rt.Vars.length : Int)⟩]) (sg ++ [M]) ∧ ins = absL 0 (flat sg) := by
 have hl := h.u.hl
 obtain ⟨q,hq,_,q38,qk,rf⟩ := h.p.rt.of k rt hr
 obtain ⟨hq',e,hR,hnode,hvl,_⟩ := rf.h
 have hin := h.u.inR hR
 have hend : e = IN l ds (q + 1) := by
  obtain ⟨q2,hq2,e2,_,hp⟩ := hR
  have a := KQ hl hp
  rw [KQ hl (h.u.dend q hq)] at a
  have := Option.some.inj a
  omega
 obtain ⟨b,kb,pb,hrb,hcb⟩ := h.u.routine_block hR
 have hbe := pb.le.2.1 (by simp)
 obtain ⟨C,e1,M,m1,m2,m3,m4,m5⟩ := M0 (nv := rt.Vars.length) hl 4000 b e pb (by omega) (fun p p0 p1 => by rw [hvl]; exact h.nf ds[q] e p hR (by omega) p1)
 obtain ⟨hm1,hm2⟩ := hk.mk_ q (by omega) qk.symm
 rw [NQ q hq] at hm1 hm2
 have hil : ins.length = (flat sg).length := by rw [hk.ie,BK]
 refine ⟨b,C,M,nd l ds[q],by rw [hnode]; exact Hc (by omega),by rw [hnode]; exact kb,e1,m1,m3.rb (by omega),by omega,?_,hk.ie⟩
 have hsl := hk.sl
 refine ⟨by simp [hsl],rfl,by simp [hk.dl],fun q' hq'' => ?_,fun n hn hcn => ?_⟩
 · rcases Nat.lt_or_ge q' sg.length with hlt | hge
   · obtain ⟨r,a1,a2,a3,a4,a5⟩ := hk.at_ q' hlt
     refine ⟨r,a1,?_,?_,?_,a5⟩
     · rw [Pl sg M q' (by omega),List.getElem?_append_left (by have := hk.dl; omega)]; exact a2
     · rw [List.getElem_append_left hlt]; exact a3
     · rw [List.getElem_append_left hlt]; exact a4
   · have hq3 : q' = sg.length := by simp at hq''; omega
     subst hq3
     refine ⟨rt,by rw [hsl]; exact hr,?_,?_,?_,by have := h.nv _ e hR; omega,rf.nm,rf.p0,rf.pv⟩
     · rw [Pl sg M _ (Nat.le_refl _),Na,hsl,← hk.dl]
       simp [hil]
     · simp only [List.getElem_concat_length]; exact m3
     · simp only [List.getElem_concat_length]; exact m4
 · have hup := Of (l := l) (ds := ds) false q hq
   rw [beqf q38] at hup
   simp at hup
   have hqn : q + 1 ≤ n := by
    rcases Nat.lt_or_ge q n with hlt | hge
    · exact hlt
    · have key : ∀ d,n + d ≤ ds.length → cN l ds false n ≤ cN l ds false (n + d) := by
        intro d
        induction d with
        | zero => intro _; exact Nat.le_refl _
        | succ d ih =>
          intro hd
          have := ih (by omega)
          have := Of (l := l) (ds := ds) false (n + d) (by omega)
          rw [show n + (d + 1) = n + d + 1 by omega,this]; omega
      have := key (q - n) (by omega)
      rw [show n + (q - n) = q by omega] at this
      omega
   obtain ⟨s1,s2⟩ := Un.same_start h.u (n - (q + 1)) (q + 1) (by omega) (by rw [show q + 1 + (n - (q + 1)) = n by omega]; omega)
   rw [show q + 1 + (n - (q + 1)) = n by omega,← hend] at s1 s2
   rw [Lj,Nj,s1]
   refine ⟨?_,?_⟩
   · rw [D9,D9,IS _ (by simp),hm1,m5,hcb,List.append_nil,J1 (by omega) (HG l (by omega))]
   · simp only [List.length_append,List.length_singleton]
     omega
theorem PM {l : List Aa} (hl : l.length ≤ 3000) (g : Ap) (ins : List Ac) (defs : List Ao) : Loop (fun s : (Int × Int) => CN l g ins defs s.1 s.2) (0,0) = some (cond (decide (65536 < (ins.length : Int))) (⟨(⟨([] : List Ac),([] : List Ao),([] : List Ak),0,0⟩ : Au),(l.length : Int),5⟩ : AA) (⟨(⟨ins,defs,g.P.Chans,g.P.Main,(cntS l l.length : Int)⟩ : Au),0,0⟩ : AA)) := by
 have isE : ∀ x,DR x = some (isSt x) := fun x => by
  unfold DR Fe isSt
  cases decide (18 ≤ x.Op) <;> rfl
 have cl : ∀ p,cntS l p ≤ 3000 := fun p => by
  unfold cntS
  have := List.countP_le_length (p := isSt) (l := l.take p)
  rw [List.length_take] at this
  omega
 refine Ln (step := fun s : (Int × Int) => CN l g ins defs s.1 s.2) (fun k => ((k : Int),(cntS l k : Int))) l.length (fun k hk => ?_) ?_
 · show CN l g ins defs k (cntS l k) = _
   unfold CN
   have := cl k
   rw [dct (by omega),bnd (Hc (by omega)),bnd (isE _),IY l k (nd l k) (nd_at (by omega))]
   unfold Gh
   rw [w64s (by omega),w64s (by omega)]
   cases isSt (nd l k) <;> rfl
 · show CN l g ins defs l.length (cntS l l.length) = _
   unfold CN
   rw [dcf (by omega)]
   cases decide (65536 < (ins.length : Int)) <;> rfl
theorem SD (l : List Aa) (hl : l.length ≤ 3000) (hN : NI l) : OkP (Hv l) (fun g => g.E = 0 → g.C.Ins.length ≤ 400 → Cr g.C = some (0,0)) := by
 unfold Hv
 refine OkP.bind (QB l hl hN) fun g _ hg => OkP.condNE (fun he => OkP.ret fun h => absurd h he) (fun he => ?_)
 obtain ⟨ds,h⟩ := hg he
 have hrl := h.p.rt.len
 have hcf := MZ (l := l) (ds := ds) false ds.length
 have hdl := h.u.dsl
 refine Fm (S := Int × (List Ac) × (List Ao)) (fun s => ∃ (k : Nat) (sg : List (List An)),s.1 = k ∧ k ≤ g.P.Routines.length ∧ OInv l ds g.P k s.2.1 s.2.2 sg) (fun s => ((g.P.Routines.length : Int) - s.1).toNat) ?_ _ ⟨0,[],rfl,by omega,⟨rfl,rfl,rfl,fun q h => (by cases h),fun n hn hcn => ?_⟩⟩
 · rintro ⟨i,ins,defs⟩ ⟨k,sg,hk,hkl,hI⟩
   replace hk : i = k := hk
   subst hk
   replace hI : OInv l ds g.P k ins defs sg := hI
   show OkP (Gg l g k ins defs) _
   unfold Gg
   refine OkP.condD (fun hlt => ?_) (fun hge => ?_)
   · have hk' : k < g.P.Routines.length := by omega
     have hr : g.P.Routines[k]? = some g.P.Routines[k] := List.getElem?_eq_getElem hk'
     obtain ⟨b,C,M,y,s1,s2,s3,s4,s5,s6,s7,s8⟩ := hI.step h hr
     have hdl' := hI.dl
     have s5l := s5.len
     have hfl : (flat sg).length = ins.length := by rw [s8,BK]
     rw [Gw hk',bnd rfl]
     refine OkP.grd (by simp; omega) ?_
     rw [bnd s1,bnd s2,bnd s3]
     have ej : A1 ins C = some (absL 0 (flat sg ++ M)) := by rw [s8,s4]; exact R6 (flat sg) M (by omega) s5
     rw [bnd ej]
     refine OkP.grd (by rw [BK]; simp; omega) ?_
     refine OkP.ret ⟨⟨k + 1,sg ++ [M],?_,by omega,?_⟩,?_⟩
     · show w64 ((k : Int) + 1) = _; rw [w64s (by omega)]
     · have e2 : absL 0 (flat sg ++ M) ++ [(⟨24,0,0⟩ : Ac)] = absL 0 (flat (sg ++ [M])) := by
         rw [Lj,Nj,← List.append_assoc,← K9]; rfl
       show OInv l ds g.P (k + 1) (absL 0 (flat sg ++ M) ++ [_]) _ _
       rw [e2]
       exact s7
     · show ((g.P.Routines.length : Int) - w64 ((k : Int) + 1)).toNat < ((g.P.Routines.length : Int) - (k : Int)).toNat
       rw [w64s (by omega)]
       omega
   · have : k = g.P.Routines.length := by omega
     subst this
     rw [PM hl]
     refine OkP.map (OkP.ret ?_)
     show (cond (decide (65536 < (ins.length : Int))) _ _ : AA).E = 0 → _
     cases hb : decide (65536 < (ins.length : Int)) with
     | true => exact fun h => by cases h
     | false => exact fun _ h400 => OInv.check h hI h400
 · obtain ⟨s1,s2⟩ := Un.same_start h.u n 0 (by omega) (by rw [Nat.zero_add]; exact hcn)
   rw [Nat.zero_add,h.u.cnt0] at s1
   rw [s1]
   exact ⟨by rw [M8]; rfl,by simp [flat]⟩
end Go.Ab
end
section
namespace Go.Ab
set_option linter.unusedVariables false
set_option maxRecDepth 100000
section
variable {toks : List Af} (tk : TK toks)
include tk
theorem SR (a : Int) (h0 : 0 ≤ a) (h1 : a ≤ toks.length) : OkP (GN toks a) (CI toks a 1 200001) := by
 have hl := tk.len
 unfold GN
 refine OkP.bind (Jp tk a h0) fun t _ _ => OkP.bind (JE tk a h0 _) fun b _ _ => OkP.condB (fun _ => ?_) (fun _ => OkP.bind (JE tk a h0 _) fun b _ _ => OkP.condB (fun _ => ?_) (fun _ => ?_))
 ·
  refine OkP.bind (IU a h0 h1 200000) fun c _ ⟨hc,_,_⟩ => OkP.bind (eat_ok tk hc _) fun y _ hy => OkP.bind (J4 tk hy) fun r _ ⟨hr,hn⟩ => ?_
  replace hr : CI toks a 2 200000 r.1 := hr.mono (by omega) (Nat.le_refl _)
  have j1 : ∀ (n : Int) (c : Cu),CI toks a 2 200000 c → OkP (DB toks t r n c.l c.n c.at_ c.e) (CI toks a 1 200001) := fun n c hc => by
   unfold DB
   exact OkP.bind (eat_ok tk hc _) fun y _ hy => LL tk hy (by omega) (by omega) (by omega) _ hn
  have j2 : ∀ b,OkP (EK toks t r b) (CI toks a 1 200001) := fun b => by
   unfold EK
   exact OkP.condB (fun _ => OkP.bind (eat_ok tk hr _) fun y _ hy => OkP.bind (Sz tk hy) fun z _ hz => OkP.bind (eat_ok tk hz _) fun w _ hw => j1 z.2 w (hw.mono (by omega) (Nat.le_refl _))) (fun _ => j1 0 r.1 hr)
  exact OkP.condB (fun _ => OkP.bind (JE tk _ hr.at0 _) fun b _ _ => j2 b) (fun _ => j2 false)
 ·
  refine OkP.bind (IU a h0 h1 200000) fun c _ ⟨hc,_,_⟩ => OkP.bind (eat_ok tk hc _) fun y _ hy => OkP.bind (J4 tk hy) fun r _ ⟨hr,hn⟩ => OkP.bind (eat_ok tk hr _) fun z _ hz => ?_
  replace hz : CI toks a 2 200000 z := hz.mono (by omega) (Nat.le_refl _)
  have j3 : ∀ (c : Cu),CI toks a 2 200000 c → OkP (DA toks t r c.l c.n c.at_ c.e) (CI toks a 1 200001) := fun c hc => by
   unfold DA
   exact OkP.bind (eat_ok tk hc _) fun y _ hy => OkP.bind (R9 tk hy (by omega) (by omega) (by omega)) fun z _ hz => LL tk hz (by omega) (by omega) (by omega) _ hn
  have j4 : ∀ b,OkP (EJ toks t r z b) (CI toks a 1 200001) := fun b => by
   unfold EJ
   refine OkP.condB (fun _ => OkP.bind (Pj tk hz (by omega) (by omega) (by omega)) fun w _ ⟨hw,_⟩ => ?_) (fun _ => j3 z hz)
   refine Fm (S := List Aa × Int × Int × Int) (fun t => CI toks a 2 200000 ⟨t.1,t.2.1,t.2.2.1,t.2.2.2⟩) (fun t => ms toks t.2.2.1 t.2.2.2) ?_ _ hw
   rintro ⟨l,n,p,e⟩ hI
   replace hI : CI toks a 2 200000 ⟨l,n,p,e⟩ := hI
   show OkP (FO toks t r l n p e) _
   have j5 : ∀ b : Bool,(b = true → e = 0 ∧ p < toks.length) → OkP (EI toks t r l n p e b) (Sum.elim (fun t : List Aa × Int × Int × Int => CI toks a 2 200000 ⟨t.1,t.2.1,t.2.2.1,t.2.2.2⟩ ∧ ms toks t.2.2.1 t.2.2.2 < ms toks p e) (CI toks a 1 200001)) := fun b hb => by
    unfold EI
    refine OkP.condB (fun hbt => ?_) (fun _ => OkP.map (j3 ⟨l,n,p,e⟩ hI))
    obtain ⟨he,hp⟩ := hb hbt
    have hp0 := hI.at0
    replace hp0 : 0 ≤ p := hp0
    refine OkP.bind (eat_ok tk hI _) fun y ey hy => OkP.bind (Pj tk (hy.mono (s' := 2) (by omega) (Nat.le_refl _)) (by omega) (by omega) (by omega)) fun w ew ⟨hw,hm⟩ => OkP.ret ⟨hw,?_⟩
    show ms toks w.at_ w.e < ms toks p e
    unfold ms at hm ⊢
    rw [beqt he]
    by_cases hwe : w.e = 0
    · by_cases hye : y.e = 0
      · have hm := hm hye
        obtain ⟨_,hat⟩ := Sf ey hye
        replace hat : y.at_ = w64 (p + 1) := hat
        rw [w64i (by omega) (by omega)] at hat
        rw [beqt hye,hat] at hm
        rw [beqt hwe] at hm ⊢
        replace hm : 1 + ((toks.length : Int) - w.at_).toNat < 1 + ((toks.length : Int) - (p + 1)).toNat := hm
        show 1 + ((toks.length : Int) - w.at_).toNat < 1 + ((toks.length : Int) - p).toNat
        omega
      · exfalso
        unfold CZ at ew
        rw [show (y.e != 0) = true by simpa using hye] at ew
        cases ew
        exact hye hwe
    · rw [beqf hwe]
      show 0 < 1 + _
      omega
   unfold FO
   refine OkP.condE (fun he => OkP.bind (JE tk p hI.at0 _) fun b _ hb => j5 b fun hbt => ⟨he,hb hbt⟩) (fun _ => j5 false (by simp))
  exact OkP.condB (fun _ => OkP.bind (JE tk _ hz.at0 _) fun b _ _ => j4 _) (fun _ => j4 false)
 · exact OkP.bind (IU a h0 h1 200000) fun c _ ⟨hc,_,_⟩ => OkP.bind (eat_ok tk hc _) fun y _ hy => OkP.bind (R9 tk hy (by omega) (by omega) (by omega)) fun z _ hz => LL tk hz (by omega) (by omega) (by omega) _ LC
structure UG (g : Ag) : Prop where
 at0 : 0 ≤ g.At
 len : g.L.length ≤ 3000
 ni : NI g.L
theorem Sn : OkP (GO toks) UG := by
 have hl := tk.len
 unfold GO
 refine OkP.bind (IU (toks := toks) 0 (by omega) (by omega) 300000) fun c _ ⟨hc,_,_⟩ => ?_
 refine Fm (S := List Aa × Int × Int × Int) (fun t => CI toks 0 0 300000 ⟨t.1,t.2.1,t.2.2.1,t.2.2.2⟩) (fun t => ms toks t.2.2.1 t.2.2.2) ?_ _ hc
 rintro ⟨l,n,p,e⟩ hI
 replace hI : CI toks 0 0 300000 ⟨l,n,p,e⟩ := hI
 show OkP (FQ toks l n p e) _
 have j1 : ∀ b : Bool,(b = true → e = 0) → OkP (EL toks l n p e b) (Sum.elim (fun t : List Aa × Int × Int × Int => CI toks 0 0 300000 ⟨t.1,t.2.1,t.2.2.1,t.2.2.2⟩ ∧ ms toks t.2.2.1 t.2.2.2 < ms toks p e) UG) := fun b hb => by
  unfold EL
  refine OkP.condB (fun hbt => ?_) (fun _ => OkP.map (OkP.condNE (fun he => OkP.ret ⟨hI.at0,by show 0 ≤ 3000; omega,NI.nil⟩) (fun he => ?_)))
  · have he := hb hbt
    have hp := (hI.ok he).2.1
    refine OkP.bind (SR tk p hI.at0 hp) fun d _ hd => OkP.bind (Kc tk hI (by omega) (fun _ => hd) (by omega) (by omega)) fun r er hr => OkP.ret ⟨hr,?_⟩
    exact CI.more (c := ⟨l,n,p,e⟩) he hd er hr
  · obtain ⟨h1,h2,h3,h4,h5,h6⟩ := hI.ok he
    replace h1 : 0 ≤ p := h1
    replace h2 : p ≤ toks.length := h2
    replace h3 : (l.length : Int) + 0 ≤ 2 * (p - 0) := h3
    replace h4 : NI l := h4
    replace h5 : 0 ≤ n := h5
    replace h6 : n ≤ p - 0 := h6
    refine OkP.bind (Q := fun y : Cu => y.l.length ≤ 3000 ∧ NI y.l) ?_ fun y _ hy => OkP.ret ⟨by show (0 : Int) ≤ 0; omega,hy.1,hy.2⟩
    unfold Av
    refine OkP.grd (by simp; omega) (OkP.ret ⟨by show ([_] ++ l).length ≤ 3000; simp; omega,NI.app (NI.one LC (by show -10 ≤ n; omega) (by show n ≤ 1000000; omega)) h4⟩)
 unfold FQ
 refine OkP.condE (fun he => OkP.bind (Jp tk p hI.at0) fun t _ _ => j1 _ fun _ => he) (fun _ => j1 false (by simp))
end
def LN (g : Ag) : Prop := g.L.length ≤ 3000 ∧ NI g.L
theorem NM (s : ByteArray) (hs : s.size ≤ 700) : OkP (FF s) LN := by
 unfold FF
 refine OkP.bind (RU s hs) fun t _ ht => OkP.condNE (fun _ => OkP.ret ⟨by show 0 ≤ 3000; omega,NI.nil⟩) (fun he => ?_)
 obtain ⟨tk,h1⟩ := ht he
 have hl := tk.len
 refine OkP.bind (Sn tk) fun g _ hg => ?_
 have j : ∀ x,OkP (FR g x) LN := fun x => OkP.ret ⟨hg.len,hg.ni⟩
 have h0 := hg.at0
 refine OkP.condNE (fun _ => OkP.at ?_ ?_ fun y _ => j _) (fun _ => j _)
 · rw [w64i (by omega) (by omega)]
   split <;> omega
 · rw [w64i (by omega) (by omega)]
   split <;> omega
theorem Qj (s : ByteArray) (hs : s.size ≤ 700) : Ok (GJ s) := by
 unfold GJ
 refine OkP.bind (NM s hs) fun x _ ⟨hl,hN⟩ => OkP.condNE (fun _ => OkP.rett _) (fun _ => OkP.bind (QB x.L hl hN) fun g eg _ => OkP.condE (fun _ => OkP.rett _) (fun _ => OkP.condD (fun _ => OkP.rett _) (fun hlt => OkP.at ?_ (by omega) fun y _ => OkP.rett _)))
 exact SE x.L hl hN g eg
theorem Qi (s : ByteArray) (hs : s.size ≤ 700) : OkP (GG s) (fun g => g.E = 0 → g.C.Ins.length ≤ 400 → Cr g.C = some (0,0)) := by
 unfold GG
 refine OkP.bind (Qj s hs) fun u _ _ => OkP.condNE (fun he => OkP.ret fun h => absurd h he) (fun _ => OkP.bind (NM s hs) fun x _ ⟨hl,hN⟩ => OkP.bind (SD x.L hl hN) fun g _ hg => ?_)
 have j : ∀ p,OkP (FK g p) (fun g => g.E = 0 → g.C.Ins.length ≤ 400 → Cr g.C = some (0,0)) := fun p => OkP.ret hg
 exact OkP.condB (fun _ => j _) (fun _ => j _)
theorem N7 (hlive : DO = some true) (s : ByteArray) : FG s = some true := by
 unfold FG
 rw [hlive]
 by_cases h : 700 < (s.size : Int)
 · rw [dct h]; rfl
 · rw [dcf h]
   obtain ⟨g,eg,hg⟩ := Qi s (by omega)
   rw [bnd eg]
   have j1 : ∀ b : Bool,(b = false → Cr g.C = some (0,0)) → Cq g b = some true := fun b hb => by
    unfold Cq
    rw [hlive]
    cases b with
    | true => rfl
    | false => rw [hb rfl]; rfl
   by_cases he : g.E = 0
   · rw [show (g.E != 0) = false by simpa using he]
     refine j1 _ fun h4 => hg he ?_
     have := of_decide_eq_false h4
     omega
   · rw [show (g.E != 0) = true by simpa using he]
     exact j1 true (by simp)
end Go.Ab
end
section
namespace Go.Ab
set_option linter.unusedVariables false
abbrev dM : Ao := ⟨⟨#[109,97,105,110]⟩,0,0,0⟩
abbrev kE (x : Ac) : Au := ⟨[⟨1,0,0⟩,x,⟨24,0,0⟩],[dM],[],0,1⟩
theorem Tj (x : Ac) : H4 (kE x) = some true := by
 refine NO ⟨?_,?_,?_,⟨dM,?_,rfl,rfl⟩,?_,?_,trivial⟩
 · show 1 ≤ 1; omega
 · show 1 ≤ 32; omega
 · show 3 ≤ 65536; omega
 · show (0 : Int) ≤ 0; omega
 · exact ⟨.inl rfl,fun _ => rfl,by show (-1 : Int) < 0; omega,by show (0 : Int) < ((3 : Nat) : Int); omega,by show (0 : Int) ≤ 0; omega,by show (0 : Int) ≤ 0; omega,by show (0 : Int) ≤ 16; omega,trivial⟩
 · show 0 ≤ 100000; omega
theorem Pq (x : Ac) (hx : (x.Op == 1) = false) (may : ∀ m,Eo 1 ⟨kE x,m,0,3,0⟩ = some true) (p : Int) (b : Bool) (hf : EV ⟨kE x,1,0,3,0⟩ = some (p,b)) : Cr (kE x) = some (cond b (0,0) (p,14)) := by
 have s0 : Cn (kE x) 0 ⟨kE x,0,0,3,0⟩ 0 0 = some (.inl (1,1)) := rfl
 have s1 : Cn (kE x) 0 ⟨kE x,0,0,3,0⟩ 1 1 = some (.inl (2,1)) := by
  unfold Cn
  show (Eo 1 ⟨kE x,1,0,3,0⟩).bind _ = _
  rw [may]
  show cond (x.Op == 1) _ _ = _
  rw [hx]; rfl
 have s2 : Cn (kE x) 0 ⟨kE x,0,0,3,0⟩ 2 1 = some (.inl (3,1)) := rfl
 have lp : Loop (fun s : (Int × Int) => Cn (kE x) 0 ⟨kE x,0,0,3,0⟩ s.1 s.2) (0,0) = some (.inl (1,(kE x).Ins,[dM],[],0,1,1,0,3,0)) := by
  rw [Loop_inl (s' := (1,1)) s0,Loop_inl (s' := (2,1)) s1,Loop_inl (s' := (3,1)) s2]
  exact Loop_inr rfl
 unfold Cr
 rw [Tj]
 show Loop _ _ = _
 rw [Loop_inl (s' := (1,(kE x).Ins,[dM],[],0,1,1,0,3,0)) lp]
 refine Loop_inr ?_
 show (Loop (fun s : (Int × (List Ac) × (List Ao) × (List Ak) × Int × Int × Int × Int × Int × Int) => C4 (kE x) s.1 s.2.1 s.2.2.1 s.2.2.2.1 s.2.2.2.2.1 s.2.2.2.2.2.1 s.2.2.2.2.2.2.1 s.2.2.2.2.2.2.2.1 s.2.2.2.2.2.2.2.2.1 s.2.2.2.2.2.2.2.2.2) (0,(kE x).Ins,[dM],[],0,1,1,0,3,0)).map Sum.inr = _
 have st : C4 (kE x) 0 (kE x).Ins [dM] [] 0 1 1 0 3 0 = cond b (some (.inl (1,(kE x).Ins,[dM],[],0,1,1,0,3,0))) (some (.inr (p,14))) := by
  unfold C4
  show (EV ⟨kE x,1,0,3,0⟩).bind _ = _
  rw [hf]; cases b <;> rfl
 cases b with
 | true =>
   rw [Loop_inl (s' := (1,(kE x).Ins,[dM],[],0,1,1,0,3,0)) st,Loop_inr (r := (0,0)) rfl]; rfl
 | false =>
   rw [Loop_inr (r := (p,14)) st]; rfl
theorem Te : DO = some true := by
 have e1 : Cr (kE ⟨2,1,0⟩) = some (2,14) := Pq _ rfl (fun _ => rfl) 2 false (Loop_of 5 rfl)
 have hs : IM (kE ⟨17,0,0⟩) 2 = some 2 := Loop_inr rfl
 have hr : ∀ m,Bj 2 ⟨kE ⟨17,0,0⟩,m,0,3,0⟩ = some true := fun m => by
  unfold Bj
  rw [hs]; rfl
 have hm : ∀ m,Eo 1 ⟨kE ⟨17,0,0⟩,m,0,3,0⟩ = some true := fun m => by
  show (Bj 2 ⟨kE ⟨17,0,0⟩,m,0,3,0⟩).bind _ = _
  rw [hr]; rfl
 have e2 : Cr (kE ⟨17,0,0⟩) = some (0,0) := Pq _ rfl hm 0 true (Loop_of 5 rfl)
 have e3 : It (kE ⟨17,0,0⟩) 1 = some 0 := by
  show (Bd 1 0 [dM]).bind _ = _
  rw [show Bd 1 0 [dM] = some (.inl 0) from Loop_of 3 rfl]; rfl
 have e4 : KY (kE ⟨17,0,0⟩) 0 = some 0 := rfl
 unfold DO
 show (Cr (kE ⟨2,1,0⟩)).bind _ = _
 rw [e1]
 show (Cr (kE ⟨17,0,0⟩)).bind _ = _
 rw [e2]
 show (It (kE ⟨17,0,0⟩) 1).bind _ = _
 rw [e3]
 rfl
end Go.Ab
end
