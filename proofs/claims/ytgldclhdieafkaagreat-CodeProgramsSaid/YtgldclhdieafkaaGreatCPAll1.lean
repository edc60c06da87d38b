/- Parts of the proof, one behind the other. -/
import Derived.Test.YtgldclhdieafkaaGreatGPX
import Derived.Test.YtgldclhdieafkaaGreatAbTot
import Derived.Test.YtgldclhdieafkaaGreatGP
import Derived.KernelRfl
section
namespace Go.Ab
set_option linter.unusedVariables false
set_option maxRecDepth 10000
theorem ok_Letter (p : Int) : Ok (Bv p) := by
 have j : ∀ x,Ok (BA x) := fun x => OkP.rett _
 unfold Bv; repeat' (first | exact j _ | (with_reducible first | exact OkP.rett _ | refine OkP.condN (fun _ => ?_) (fun _ => ?_) | refine OkP.condD (fun _ => ?_) (fun _ => ?_) | refine OkP.condE (fun _ => ?_) (fun _ => ?_) | refine OkP.condNE (fun _ => ?_) (fun _ => ?_) | refine OkP.condB (fun _ => ?_) (fun _ => ?_) | refine OkP.map ?_ | refine OkP.ret ?_ | refine OkP.at (by omega) (by omega) (fun _ _ => ?_) | refine OkP.sat (by omega) (by omega) (fun _ _ => ?_) | assumption))
theorem ok_Digit (p : Int) : Ok (BR p) := by
 have j : ∀ x,Ok (Fv x) := fun x => OkP.rett _
 unfold BR; repeat' (first | exact j _ | (with_reducible first | exact OkP.rett _ | refine OkP.condN (fun _ => ?_) (fun _ => ?_) | refine OkP.condD (fun _ => ?_) (fun _ => ?_) | refine OkP.condE (fun _ => ?_) (fun _ => ?_) | refine OkP.condNE (fun _ => ?_) (fun _ => ?_) | refine OkP.condB (fun _ => ?_) (fun _ => ?_) | refine OkP.map ?_ | refine OkP.ret ?_ | refine OkP.at (by omega) (by omega) (fun _ _ => ?_) | refine OkP.sat (by omega) (by omega) (fun _ _ => ?_) | assumption))
theorem S8 (l : List ByteArray) (p : ByteArray) (hl : l.length < 9223372036854775808) : Ok (D6 p l) := by
 unfold D6
 refine I0 l.length hl (fun _ => True) (fun i h0 h1 _ => ?_) trivial
 unfold Fi
 (repeat' (with_reducible first | exact OkP.rett _ | refine OkP.condN (fun _ => ?_) (fun _ => ?_) | refine OkP.condD (fun _ => ?_) (fun _ => ?_) | refine OkP.condE (fun _ => ?_) (fun _ => ?_) | refine OkP.condNE (fun _ => ?_) (fun _ => ?_) | refine OkP.condB (fun _ => ?_) (fun _ => ?_) | refine OkP.map ?_ | refine OkP.ret ?_ | refine OkP.at (by omega) (by omega) (fun _ _ => ?_) | refine OkP.sat (by omega) (by omega) (fun _ _ => ?_) | assumption))
 all_goals first | trivial | exact ⟨by omega,rfl,trivial⟩
theorem OF (p : ByteArray) (hp : p.size ≤ maxLen) : Ok (BN p) := by
 unfold BN
 have hm : maxLen = 9223372036854775807 := rfl
 refine I0 p.size (by omega) (fun _ => True) (fun i h0 h1 _ => ?_) trivial
 have j : ∀ x,i < p.size → OkP (CX i x) (Sum.elim (fun j => i < p.size ∧ j = w64 (i + 1) ∧ True) (fun _ => True)) := fun x h => by
  unfold CX; (repeat' (with_reducible first | exact OkP.rett _ | refine OkP.condN (fun _ => ?_) (fun _ => ?_) | refine OkP.condD (fun _ => ?_) (fun _ => ?_) | refine OkP.condE (fun _ => ?_) (fun _ => ?_) | refine OkP.condNE (fun _ => ?_) (fun _ => ?_) | refine OkP.condB (fun _ => ?_) (fun _ => ?_) | refine OkP.map ?_ | refine OkP.ret ?_ | refine OkP.at (by omega) (by omega) (fun _ _ => ?_) | refine OkP.sat (by omega) (by omega) (fun _ _ => ?_) | assumption))
  all_goals first | trivial | exact ⟨by omega,rfl,trivial⟩
 have j2 : ∀ x,OkP (DD x) (fun b => Sum.elim (fun j => i < p.size ∧ j = w64 (i + 1) ∧ True) (fun _ => True) (Sum.inr b : Int ⊕ Bool)) := fun x => ⟨_,rfl,trivial⟩
 have hw : Ok (Dq) := OkP.rett _
 unfold EQ
 repeat' (first | exact j _ (by omega) | exact j2 _ | (with_reducible first | exact OkP.rett _ | refine OkP.condN (fun _ => ?_) (fun _ => ?_) | refine OkP.condD (fun _ => ?_) (fun _ => ?_) | refine OkP.condE (fun _ => ?_) (fun _ => ?_) | refine OkP.condNE (fun _ => ?_) (fun _ => ?_) | refine OkP.condB (fun _ => ?_) (fun _ => ?_) | refine OkP.map ?_ | refine OkP.ret ?_ | refine OkP.at (by omega) (by omega) (fun _ _ => ?_) | refine OkP.sat (by omega) (by omega) (fun _ _ => ?_) | assumption) | refine OkP.bind (ok_Letter _) (fun _ _ _ => ?_) | refine OkP.bind (ok_Digit _) (fun _ _ _ => ?_))
 refine OkP.bind hw fun y e _ => OkP.bind (S8 y p ?_) fun _ _ _ => j2 _
 obtain rfl := Option.some.inj e
 decide
theorem MG {α R : Type} (l : List α) (hl : l.length < 9223372036854775808) (p : α → Bool) (found : Nat → R) (no : R) {step : Int → Option (Int ⊕ R)}
    (h1 : ∀ k (h : k < l.length),step (k : Int) = if p l[k] = true then some (.inr (found k)) else some (.inl (w64 (k + 1)))) (h2 : step (l.length : Int) = some (.inr no)) :
    Loop step 0 = some (match l.findIdx? p with | some k => found k | none => no) := by
 cases e : l.findIdx? p with
 | none =>
   rw [List.findIdx?_eq_none_iff] at e
   refine Ln (fun k => (k : Int)) l.length (fun k hk => ?_) h2
   rw [h1 k hk,if_neg (by rw [e _ (List.getElem_mem hk)]; decide),w64i (by omega) (by omega)]
   rfl
 | some n =>
   rw [List.findIdx?_eq_some_iff_getElem] at e
   obtain ⟨hn,e1,e2⟩ := e
   refine Ln (fun k => (k : Int)) n (fun k hk => ?_) ?_
   · rw [h1 k (by omega),if_neg (by simpa using e2 k hk),w64i (by omega) (by omega)]
     rfl
   · rw [h1 n hn,if_pos e1]
theorem Qq {α : Type} {x : Option α} (h : Ok x) (d : α) : x = some (x.getD d) := by
 obtain ⟨a,e,_⟩ := h; rw [e]; rfl
def memB (s : ByteArray) (l : List ByteArray) : Bool := l.any fun x => decide (x = s)
theorem Kp {s : ByteArray} {l : List ByteArray} : memB s l = true ↔ s ∈ l := by
 unfold memB
 rw [List.any_eq_true]
 constructor
 · rintro ⟨x,hx,e⟩; rw [← of_decide_eq_true e]; exact hx
 · intro h; exact ⟨s,h,decide_eq_true rfl⟩
noncomputable def letB (x : Int) : Bool := (Bv x).getD false
noncomputable def digB (x : Int) : Bool := (BR x).getD false
theorem Tg (x : Int) : Bv x = some (letB x) := Qq (ok_Letter x) _
theorem Tt (x : Int) : BR x = some (digB x) := Qq (ok_Digit x) _
def okEq (a b : Option Bool) : Bool := match a,b with | some x,some y => x == y | _,_ => false
theorem Qy {a b : Option Bool} (h : okEq a b = true) : a = b := by
 unfold okEq at h
 split at h
 · rw [eq_of_beq h]
 · cases h
theorem letters : ((List.range 256).all fun n => okEq (HI (n : Int)) (Bv (n : Int))) = true := by kernel_rfl
theorem N6 {x : Int} (h0 : 0 ≤ x) (h1 : x ≤ 255) : HI x = some (letB x) := by
 obtain ⟨n,rfl⟩ := Int.eq_ofNat_of_zero_le h0
 rw [Qy (List.all_eq_true.1 letters n (by simp; omega)),Tg]
theorem RM (x : Int) : JJ x = some (digB x) := Tt x
theorem Qf {x : Int} (h0 : 0 ≤ x) (h1 : x ≤ 255) : Ip x = some (letB x || digB x) := by
 unfold Ip Ht
 rw [N6 h0 h1,RM]
 simp only [Option.bind_some]
 cases letB x <;> rfl
theorem sAt_get {s : ByteArray} {k : Nat} (h : k < (sB s).length) : sAt s (k : Int) = some (sB s)[k] := by rw [R0,Gw h]
theorem S2 (s : ByteArray) (hs : s.size ≤ 16) : ∃ t,I1 s = some t ∧ ((t.toList == s.toList) = (sB s).all fun x => letB x || digB x) := by
 have e1 : I1 s = some (match (sB s).findIdx? (fun x => !(letB x || digB x)) with | some k => s.extract 0 k | none => s) := by
  unfold I1
  refine MG (R := ByteArray) (sB s) (by rw [sB_len]; omega) (fun x => !(letB x || digB x)) (fun k => s.extract 0 k) s (fun k hk => ?_) ?_
  · have hm := RZ (List.getElem_mem hk)
    unfold Iq
    rw [sB_len] at hk
    rw [dct (by omega),sAt_get (by rw [sB_len]; exact hk)]
    simp only [cond_true,Option.bind_some,Qf hm.1 hm.2]
    rw [JF ⟨by omega,by omega,by omega⟩]
    cases (letB (sB s)[k] || digB (sB s)[k]) <;> rfl
  · unfold Iq
    rw [sB_len,dcf (by omega)]; rfl
 refine ⟨_,e1,?_⟩
 cases e : (sB s).findIdx? (fun x => !(letB x || digB x)) with
 | none =>
   rw [List.findIdx?_eq_none_iff] at e
   show (s.toList == s.toList) = _
   rw [beq_self_eq_true]
   symm
   rw [List.all_eq_true]
   intro x hx
   have := e x hx
   revert this
   cases letB x <;> cases digB x <;> simp
 | some k =>
   rw [List.findIdx?_eq_some_iff_getElem] at e
   obtain ⟨hk,e1,_⟩ := e
   show ((s.extract 0 k).toList == s.toList) = _
   have h1 : ¬ (s.extract 0 k) = s := fun h => by
    have := congrArg ByteArray.size h
    rw [ByteArray.size_extract] at this
    rw [sB_len] at hk
    omega
   rw [eqS,decide_eq_false h1]
   symm
   rw [Bool.eq_false_iff]
   intro h
   have := List.all_eq_true.1 h _ (List.getElem_mem hk)
   rw [this] at e1; cases e1
noncomputable def wordL : List ByteArray := (Hs).getD []
noncomputable def M4 : List ByteArray := (Dq).getD []
theorem SN (a b : ByteArray) : Fz a b = some (sLt a b) := by
 unfold Fz Dr E5
 simp only [Option.bind_some,beq_self_eq_true,Bool.not_true,cond_false]
theorem TP (s : ByteArray) (l : List ByteArray) (hl : l.length ≤ 1000) : OkP (Bp s l) (fun r => r.2 = true → s ∈ l) := by
 unfold Bp
 refine Fm (fun t : Int × Int => 0 ≤ t.1 ∧ t.1 ≤ t.2 ∧ t.2 ≤ l.length) (fun t : Int × Int => (t.2 - t.1).toNat) (fun t ⟨a,b,e⟩ => ?_) _ ⟨by simp,by simp,by simp⟩
 obtain ⟨i,j⟩ := t
 replace a : 0 ≤ i := a
 replace b : i ≤ j := b
 replace e : j ≤ l.length := e
 show OkP (Bb s l i j) _
 unfold Bb AQ DQ
 have hm : w64 (Int.fdiv (wu64 (w64 (i + j))) 2) = (i + j) / 2 := by
  rw [w64i (n := i + j) (by omega) (by omega)]
  have : wu64 (i + j) = i + j := by rw [wu64,IntKind.wrap_u64]; omega
  rw [this,Int.fdiv_eq_ediv_of_nonneg _ (by omega),w64i (by omega) (by omega)]
 rw [hm]
 refine OkP.condD (fun hv => ?_) (fun hv => OkP.map ?_)
 · refine OkP.at (by omega) (by omega) fun y _ => ?_
   rw [SN]
   simp only [Option.bind_some]
   refine OkP.condB (fun _ => OkP.ret ?_) (fun _ => OkP.ret ?_)
   · rw [w64i (n := (i + j) / 2 + 1) (by omega) (by omega)]
     show (0 ≤ (i + j) / 2 + 1 ∧ (i + j) / 2 + 1 ≤ j ∧ j ≤ (l.length : Int)) ∧ (j - ((i + j) / 2 + 1)).toNat < (j - i).toNat
     omega
   · show (0 ≤ i ∧ i ≤ (i + j) / 2 ∧ (i + j) / 2 ≤ (l.length : Int)) ∧ ((i + j) / 2 - i).toNat < (j - i).toNat
     omega
 · refine OkP.condD (fun h2 => OkP.at a h2 fun y ey => ?_) (fun _ => OkP.ret fun h => by cases h)
   rw [eqS]
   refine OkP.condD (fun h3 => OkP.ret fun _ => h3 ▸ OJ ey) (fun h3 => OkP.at a h2 fun z _ => ?_)
   simp only [Option.bind_some,beq_self_eq_true,Bool.not_true,cond_false]
   exact OkP.ret fun h => by cases h
theorem words_len : wordL.length = 18 := by kernel_rfl
theorem PJ : Hs = some wordL := rfl
theorem Qe : ∀ s ∈ wordL,Hh s = some true := by
 intro s hs
 have key : (wordL.all fun w => okEq (Kd w) (some true)) = true := by kernel_rfl
 exact NE _ _ (Qy (List.all_eq_true.1 key s hs))
theorem Sm (s : ByteArray) : Hh s = some (memB s wordL) := by
 by_cases h : s ∈ wordL
 · rw [Qe s h,Kp.2 h]
 · rw [show memB s wordL = false from Bool.eq_false_iff.2 fun e => h (Kp.1 e)]
   unfold Hh
   rw [PJ]
   obtain ⟨r,hr,h2⟩ := TP s wordL (by rw [words_len]; omega)
   simp only [Option.bind_some,hr]
   cases hq : r.2
   · rfl
   · exact absurd (h2 hq) h
theorem TO (s : ByteArray) (l : List ByteArray) (hl : l.length ≤ 1000) : D6 s l = some (memB s l) := by
 have e1 : D6 s l = some (match l.findIdx? (fun x => decide (x = s)) with | some k => true | none => false) := by
  unfold D6
  refine MG (R := Bool) l (by omega) (fun x => decide (x = s)) (fun k => true) false (fun k hk => ?_) ?_
  · unfold Fi
    rw [dct (by omega),Gw hk]
    simp only [cond_true,Option.bind_some,eqS]
    cases decide (l[k] = s) <;> rfl
  · unfold Fi
    rw [dcf (by omega)]; rfl
 rw [e1]
 cases e : l.findIdx? (fun x => decide (x = s)) with
 | none =>
   rw [List.findIdx?_eq_none_iff] at e
   rw [show memB s l = false from Bool.eq_false_iff.2 fun h => by have := e s (Kp.1 h); simp at this]
 | some k =>
   rw [List.findIdx?_eq_some_iff_getElem] at e
   obtain ⟨hk,e1,_⟩ := e
   have e1 : l[k] = s := of_decide_eq_true e1
   show some true = _
   rw [Kp.2 (by rw [← e1]; exact List.getElem_mem hk)]
theorem PK : Dq = some M4 := rfl
theorem PP (s : ByteArray) : s ∈ wordL ↔ s ∈ M4 := by
 have k1 : (wordL.all fun w => M4.any fun v => (v.data.toList == w.data.toList)) = true := by kernel_rfl
 have k2 : (M4.all fun w => wordL.any fun v => (v.data.toList == w.data.toList)) = true := by kernel_rfl
 constructor
 · intro h
   obtain ⟨v,hv,e⟩ := List.any_eq_true.1 (List.all_eq_true.1 k1 s h)
   rw [← data_inj (eq_of_beq e)]; exact hv
 · intro h
   obtain ⟨v,hv,e⟩ := List.any_eq_true.1 (List.all_eq_true.1 k2 s h)
   rw [← data_inj (eq_of_beq e)]; exact hv
theorem Qg : M4.length = 18 := by kernel_rfl
theorem Rs (s : ByteArray) (hs : s.size ≤ maxLen) : BN s = some (!((sB s).zipIdx.any fun x => !letB x.1 && ((x.2 == 0) || !digB x.1)) && (decide (1 ≤ s.size) && (decide (s.size ≤ 16) && !memB s M4))) := by
 have hm : maxLen = 9223372036854775807 := rfl
 have hz : (sB s).zipIdx.length = s.size := by rw [List.length_zipIdx,sB_len]
 have e1 : BN s = some (match (sB s).zipIdx.findIdx? (fun x => !letB x.1 && ((x.2 == 0) || !digB x.1)) with | some k => false | none => (decide (1 ≤ s.size) && (decide (s.size ≤ 16) && !memB s M4))) := by
  unfold BN
  refine MG (R := Bool) (sB s).zipIdx (by omega) (fun x => !letB x.1 && ((x.2 == 0) || !digB x.1)) (fun k => false) _ (fun k hk => ?_) ?_
  · rw [hz] at hk
    unfold EQ CX
    rw [dct (by omega),sAt_get (by rw [sB_len]; exact hk)]
    simp only [cond_true,Option.bind_some,Tg,Tt,List.getElem_zipIdx,Nat.zero_add]
    have : ((k : Int) == 0) = (k == 0) := by
     by_cases e : k = 0
     · subst e; rfl
     · rw [beqf (by omega)]; exact (beq_false_of_ne e).symm
    rw [this]
    have hk' : k < (sB s).length := by rw [sB_len]; exact hk
    cases letB ((sB s)[k]'hk') <;> cases (k == 0) <;> cases digB ((sB s)[k]'hk') <;> rfl
  · unfold EQ DD
    rw [hz,dcf (by omega),PK]
    simp only [cond_false,Option.bind_some,TO s M4 (by rw [Qg]; omega)]
    have e1 : decide ((1 : Int) ≤ (s.size : Int)) = decide (1 ≤ s.size) := decide_eq_decide.2 (by omega)
    have e2 : decide ((s.size : Int) ≤ 16) = decide (s.size ≤ 16) := decide_eq_decide.2 (by omega)
    rw [e1,e2]
    cases decide (1 ≤ s.size) <;> cases decide (s.size ≤ 16) <;> rfl
 rw [e1]
 cases e : (sB s).zipIdx.findIdx? (fun x => !letB x.1 && ((x.2 == 0) || !digB x.1)) with
 | none =>
   rw [List.findIdx?_eq_none_iff] at e
   have : ((sB s).zipIdx.any fun x => !letB x.1 && ((x.2 == 0) || !digB x.1)) = false := by
    rw [List.any_eq_false]
    intro x hx
    rw [e x hx]; simp
   rw [this]; rfl
 | some k =>
   rw [List.findIdx?_eq_some_iff_getElem] at e
   obtain ⟨hk,e1,_⟩ := e
   have : ((sB s).zipIdx.any fun x => !letB x.1 && ((x.2 == 0) || !digB x.1)) = true := List.any_eq_true.2 ⟨_,List.getElem_mem hk,e1⟩
   rw [this]; rfl
theorem SL (s : ByteArray) (hs : s.size ≤ maxLen) : Fx s = BN s := by
 rw [Rs s hs]
 unfold Fx FD
 rw [eqS]
 by_cases h0 : s = ⟨#[]⟩
 · rw [decide_eq_true h0]
   have : decide (1 ≤ s.size) = false := by rw [h0]; rfl
   rw [this]; simp
 rw [decide_eq_false h0]
 have h1 : 1 ≤ s.size := by
  rcases Nat.eq_zero_or_pos s.size with h | h
  · refine absurd (data_inj ?_) h0
    have : (sB s).length = 0 := by rw [sB_len]; exact h
    have h2 := List.eq_nil_of_length_eq_zero this
    unfold sB at h2
    simpa using h2
  · exact h
 rw [decide_eq_true h1]
 have e2 : decide ((s.size : Int) ≤ 16) = decide (s.size ≤ 16) := decide_eq_decide.2 (by omega)
 rw [e2]
 by_cases h2' : ¬ s.size ≤ 16
 · rw [decide_eq_false h2']; simp
 have h2 : s.size ≤ 16 := by omega
 rw [decide_eq_true h2]
 obtain ⟨t,ht,hr⟩ := S2 s h2
 have hk : 0 < (sB s).length := by rw [sB_len]; omega
 have hm := RZ (List.getElem_mem hk)
 have e3 := sAt_get hk
 simp only [Bool.not_false,cond_true,show ((0 : Nat) : Int) = 0 from rfl] at e3 ⊢
 rw [e3]
 simp only [Option.bind_some,N6 hm.1 hm.2,ht,hr,Sm]
 have e4 : memB s wordL = memB s M4 := by rw [Bool.eq_iff_iff,Kp,Kp]; exact PP s
 rw [e4]
 have key : (letB (sB s)[0] && (sB s).all fun x => letB x || digB x) = !((sB s).zipIdx.any fun x => !letB x.1 && ((x.2 == 0) || !digB x.1)) := by
  rw [Bool.eq_iff_iff]
  simp only [Bool.and_eq_true,List.all_eq_true,Bool.or_eq_true,Bool.not_eq_true',List.any_eq_false]
  constructor
  · rintro ⟨a,b⟩ x hx
    obtain ⟨i,hi,e⟩ := List.getElem_of_mem hx
    rw [List.getElem_zipIdx] at e
    subst e
    rw [List.length_zipIdx] at hi
    have := b _ (List.getElem_mem hi)
    rcases Nat.eq_zero_or_pos i with h | h
    · subst h; simp [a]
    · have : (0 + i == 0) = false := beq_false_of_ne (by omega)
      simp only [this]
      grind
  · intro hall
    have hz : ∀ (i : Nat) (hi : i < (sB s).length),((sB s)[i],i) ∈ (sB s).zipIdx := fun i hi => by
     have := List.getElem_mem (l := (sB s).zipIdx) (n := i) (by rw [List.length_zipIdx]; exact hi)
     rw [List.getElem_zipIdx,Nat.zero_add] at this
     exact this
    refine ⟨?_,fun x hx => ?_⟩
    · have := hall _ (hz 0 hk)
      simpa using this
    · obtain ⟨i,hi,rfl⟩ := List.getElem_of_mem hx
      have := hall _ (hz i hi)
      grind
 rw [← key]
 cases letB (sB s)[0] <;> cases ((sB s).all fun x => letB x || digB x) <;> rfl
end Go.Ab
end
section
namespace Go.Ab
set_option linter.unusedVariables false
theorem SS (s : ByteArray) (hs : s.size ≤ 700) (a : Int) (a0 : 0 ≤ a) (a1 : a ≤ s.size) : OkP (Gs s a) (fun r => a ≤ r ∧ r ≤ s.size) := by
 unfold Gs
 refine Fm (S := Int × Bool) (fun t => a ≤ t.1 ∧ t.1 ≤ s.size) (fun t => ((s.size : Int) - t.1).toNat) ?_ _ ⟨by show a ≤ a; omega,a1⟩
 rintro ⟨i,b⟩ ⟨i0,i1⟩
 replace i0 : a ≤ i := i0
 replace i1 : i ≤ s.size := i1
 show OkP (Fu s i b) _
 have j1 : ∀ x : Bool,i < s.size → OkP (El i x) (Sum.elim (fun t : Int × Bool => (a ≤ t.1 ∧ t.1 ≤ s.size) ∧ ((s.size : Int) - t.1).toNat < ((s.size : Int) - i).toNat) (fun r => a ≤ r ∧ r ≤ s.size)) := fun x h => by
  refine OkP.ret ?_
  show (a ≤ w64 (i + 1) ∧ w64 (i + 1) ≤ s.size) ∧ ((s.size : Int) - w64 (i + 1)).toNat < _
  rw [w64i (by omega) (by omega)]
  omega
 have j2 : ∀ x : Bool,i < s.size → OkP (CJ i b x) (Sum.elim (fun t : Int × Bool => (a ≤ t.1 ∧ t.1 ≤ s.size) ∧ ((s.size : Int) - t.1).toNat < ((s.size : Int) - i).toNat) (fun r => a ≤ r ∧ r ≤ s.size)) := fun x h => by
  unfold CJ
  exact OkP.condB (fun _ => OkP.map (OkP.ret ⟨i0,i1⟩)) (fun _ => j1 _ h)
 unfold Fu
 refine OkP.condD (fun h => OkP.sat (by omega) h fun y _ => ?_) (fun _ => OkP.map (OkP.ret ⟨i0,i1⟩))
 repeat' (first | exact j1 _ h | exact j2 _ h | (with_reducible first | exact OkP.rett _ | refine OkP.condN (fun _ => ?_) (fun _ => ?_) | refine OkP.condD (fun _ => ?_) (fun _ => ?_) | refine OkP.condE (fun _ => ?_) (fun _ => ?_) | refine OkP.condNE (fun _ => ?_) (fun _ => ?_) | refine OkP.condB (fun _ => ?_) (fun _ => ?_) | refine OkP.map ?_ | refine OkP.ret ?_ | refine OkP.at (by omega) (by omega) (fun _ _ => ?_) | refine OkP.sat (by omega) (by omega) (fun _ _ => ?_) | assumption))
def TkG (s : ByteArray) (a : Int) (g : Aw) : Prop := g.E = 0 → (g.T.Kind ≠ 0 → a < g.Next ∧ g.Next ≤ s.size) ∧ g.T.Text.size ≤ 1000
theorem TkG.err {s : ByteArray} {a n e : Int} {t : Af} (h : e ≠ 0) : TkG s a ⟨t,n,e⟩ := fun h' => absurd h' h
theorem Pz (s : ByteArray) (hs : s.size ≤ 700) (a b : Nat) : (s.extract a b).size ≤ 1000 := by
 rw [ByteArray.size_extract]; omega
theorem QW (s : ByteArray) (hs : s.size ≤ 700) (a p q : Int) (a0 : a ≤ p) (p0 : 0 ≤ p) (pq : p < q) (qs : q ≤ s.size) : OkP (F9 s p q) (TkG s a) := by
 have lp : OkP (Loop (fun t : (Int × Int) => D3 s p q t.1 t.2) (0,p)) (TkG s a) := by
  refine Fm (S := Int × Int) (fun t => p ≤ t.2 ∧ t.2 ≤ q) (fun t => (q - t.2).toNat) ?_ _ ⟨by show p ≤ p; omega,by show p ≤ q; omega⟩
  rintro ⟨n,i⟩ ⟨i0,i1⟩
  replace i0 : p ≤ i := i0
  replace i1 : i ≤ q := i1
  show OkP (D3 s p q n i) _
  unfold D3
  refine OkP.condD (fun h => OkP.sat (by omega) (by omega) fun y _ => OkP.ret ?_) (fun _ => OkP.map (OkP.grd ⟨by omega,by omega,qs⟩ (OkP.ret fun _ => ⟨fun _ => ⟨by show a < q; omega,qs⟩,Pz s hs _ _⟩)))
  show (p ≤ w64 (i + 1) ∧ w64 (i + 1) ≤ q) ∧ (q - w64 (i + 1)).toNat < (q - i).toNat
  rw [w64i (by omega) (by omega)]
  omega
 have j2 : ∀ b : Bool,OkP (D4 s p q b) (TkG s a) := fun b => by
  unfold D4
  exact OkP.condB (fun _ => OkP.ret (TkG.err (by omega))) (fun _ => lp)
 have j1 : ∀ b : Bool,OkP (D5 s p q b) (TkG s a) := fun b => by
  unfold D5
  refine OkP.condB (fun _ => OkP.ret (TkG.err (by omega))) (fun _ => OkP.condD (fun _ => OkP.ret (TkG.err (by omega))) (fun _ => OkP.condD (fun h => OkP.sat (by omega) h fun y _ => OkP.bind (ok_Letter y) fun z _ _ => j2 z) (fun _ => j2 false)))
 unfold F9
 exact OkP.sat p0 (by omega) fun y _ => OkP.condB (fun _ => j1 _) (fun _ => j1 _)
theorem SK (s : ByteArray) (hs : s.size ≤ 700) (a : Int) (a0 : 0 ≤ a) (a1 : a ≤ s.size) : OkP (GS s a) (TkG s a) := by
 have e0 : ((⟨#[]⟩ : ByteArray)).size ≤ 1000 := by decide
 unfold GS
 rw [dcf (by omega),dcf (by omega)]
 show OkP (EP s a false) _
 unfold EP
 refine OkP.bind (SS s hs a a0 a1) fun y _ hy => ?_
 refine OkP.condE (fun _ => OkP.ret fun _ => ⟨fun h => absurd rfl h,e0⟩) (fun hne => ?_)
 have hlt : y < s.size := by omega
 refine OkP.sat (by omega) hlt fun c hc => OkP.bind (ok_Digit c) fun d hd _ => OkP.condB (fun hdt => ?_) (fun _ => ?_)
 ·
  refine Fm (S := Int) (fun i => y ≤ i ∧ i ≤ s.size) (fun i => ((s.size : Int) - i).toNat) (fun i ⟨i0,i1⟩ => ?_) y ⟨by omega,by omega⟩
  have j2 : ∀ b : Bool,(b = true → i < s.size) → (b = false → y < i) → OkP (EO s y i b) (Sum.elim (fun j => (y ≤ j ∧ j ≤ s.size) ∧ ((s.size : Int) - j).toNat < ((s.size : Int) - i).toNat) (TkG s a)) := fun b h1 h2 => by
   unfold EO
   refine OkP.condB (fun h => OkP.ret ?_) (fun h => OkP.map (OkP.bind (QW s hs a y i hy.1 (by omega) (h2 h) i1) fun z _ hz => OkP.ret hz))
   have := h1 h
   show (y ≤ w64 (i + 1) ∧ w64 (i + 1) ≤ s.size) ∧ ((s.size : Int) - w64 (i + 1)).toNat < _
   rw [w64i (by omega) (by omega)]
   omega
  unfold G3
  refine OkP.condD (fun h => OkP.bind (x := sAt s i) (Qr (by omega) h) fun c' hc' _ => OkP.bind (ok_Digit c') fun d' hd' _ => j2 d' (fun _ => h) (fun hf => ?_)) (fun h => j2 false (by simp) (fun _ => by omega))
  by_cases e : i = y
  · subst e
    rw [hc] at hc'; cases hc'
    rw [hd] at hd'; cases hd'
    rw [hdt] at hf; cases hf
  · omega
 · rw [hc]
   show OkP ((Bv c).bind _) _
   refine OkP.bind (ok_Letter c) fun d hd _ => OkP.condB (fun hdt => ?_) (fun _ => ?_)
   ·
    refine Fm (S := Int) (fun i => y ≤ i ∧ i ≤ s.size) (fun i => ((s.size : Int) - i).toNat) (fun i ⟨i0,i1⟩ => ?_) y ⟨by omega,by omega⟩
    have j5 : ∀ k : Int,y < i → OkP (EN s y i k) (TkG s a) := fun k h => by
     unfold EN
     exact OkP.grd ⟨by omega,by omega,i1⟩ (OkP.ret fun _ => ⟨fun _ => ⟨by show a < i; omega,i1⟩,Pz s hs _ _⟩)
    have hw : OkP (Dq) (fun l => l.length < 9223372036854775808) := ⟨_,rfl,by decide⟩
    have j4 : ∀ b : Bool,(b = true → i < s.size) → (b = false → y < i) → OkP (DC s y i b) (Sum.elim (fun j => (y ≤ j ∧ j ≤ s.size) ∧ ((s.size : Int) - j).toNat < ((s.size : Int) - i).toNat) (TkG s a)) := fun b h1 h2 => by
     unfold DC
     refine OkP.condB (fun h => OkP.ret ?_) (fun h => OkP.map (OkP.condD (fun _ => OkP.ret (TkG.err (by omega))) (fun _ => OkP.bind hw fun w _ hwl => OkP.grd ⟨by omega,by omega,i1⟩ (OkP.bind (S8 w _ hwl) fun z _ _ => OkP.condB (fun _ => j5 3 (h2 h)) (fun _ => j5 1 (h2 h))))))
     have := h1 h
     show (y ≤ w64 (i + 1) ∧ w64 (i + 1) ≤ s.size) ∧ ((s.size : Int) - w64 (i + 1)).toNat < _
     rw [w64i (by omega) (by omega)]
     omega
    unfold G2
    refine OkP.condD (fun h => OkP.bind (x := sAt s i) (Qr (by omega) h) fun c' hc' _ => OkP.bind (ok_Letter c') fun d' hd' _ => OkP.condB (fun _ => j4 true (fun _ => h) (by simp)) (fun hf => ?_)) (fun h => j4 false (by simp) (fun _ => by omega))
    have hne2 : i ≠ y := by
     intro e
     subst e
     rw [hc] at hc'; cases hc'
     rw [hd] at hd'; cases hd'
     rw [hdt] at hf; cases hf
    rw [hc']
    show OkP ((BR c').bind _) _
    exact OkP.bind (ok_Digit c') fun d'' _ _ => j4 d'' (fun _ => h) (fun _ => by omega)
   ·
    have hsg : OkP (HE) (fun l => l.length ≤ 30 ∧ ∀ x ∈ l,1 ≤ x.size ∧ x.size ≤ 2) := ⟨_,rfl,by decide,by decide⟩
    refine OkP.bind hsg fun l _ ⟨hl,hm⟩ => ?_
    refine I0 l.length (by omega) (fun _ => True) (fun i i0 i1 _ => ?_) trivial
    unfold G1
    refine OkP.condD (fun h => ?_) (fun _ => OkP.map (OkP.ret (TkG.err (by omega))))
    obtain ⟨k,rfl⟩ := Int.eq_ofNat_of_zero_le i0
    have hk : k < l.length := by omega
    have hms := hm l[k] (List.getElem_mem _)
    rw [Gw hk]
    have j7 : ∀ b : Bool,(b = true → y + (l[k].size : Int) ≤ s.size) → OkP (EM y l k l[k] b) (Sum.elim (fun j => (k : Int) < l.length ∧ j = w64 ((k : Int) + 1) ∧ True) (TkG s a)) := fun b hb => by
     unfold EM
     refine OkP.condB (fun hbt => ?_) (fun _ => OkP.ret ⟨h,rfl,trivial⟩)
     have := hb hbt
     rw [Gw hk]
     refine OkP.map (OkP.ret fun _ => ⟨fun _ => ?_,by show l[k].size ≤ 1000; omega⟩)
     show a < w64 (y + (l[k].size : Int)) ∧ w64 (y + (l[k].size : Int)) ≤ s.size
     rw [w64i (by omega) (by omega)]
     omega
    show OkP (cond (decide (w64 (y + (l[k].size : Int)) ≤ (s.size : Int))) _ _) _
    rw [w64i (n := y + (l[k].size : Int)) (by omega) (by omega)]
    refine OkP.condD (fun h2 => OkP.grd ⟨by omega,by omega,h2⟩ (j7 _ fun _ => h2)) (fun _ => j7 false (by simp))
structure TK (t : List Af) : Prop where
 len : t.length ≤ 800
 txt : ∀ x ∈ t,x.Text.size ≤ 1000
theorem RU (s : ByteArray) (hs : s.size ≤ 700) : OkP (Hb s) (fun r => r.E = 0 → TK r.L ∧ 1 ≤ r.L.length) := by
 unfold Hb
 rw [dcf (by omega)]
 refine Fm (S := Int × Int × List Af) (fun t => 0 ≤ t.1 ∧ t.1 ≤ s.size ∧ (t.2.2.length : Int) ≤ t.1 ∧ ∀ x ∈ t.2.2,x.Text.size ≤ 1000) (fun t => ((s.size : Int) - t.1).toNat) ?_ _ ⟨by show (0 : Int) ≤ 0; omega,by show (0 : Int) ≤ _; omega,by show (0 : Int) ≤ 0; omega,by simp⟩
 rintro ⟨a,b,l⟩ ⟨a0,a1,hl,hm⟩
 replace a0 : 0 ≤ a := a0
 replace a1 : a ≤ s.size := a1
 replace hl : (l.length : Int) ≤ a := hl
 replace hm : ∀ x ∈ l,x.Text.size ≤ 1000 := hm
 show OkP (Ga s a b l) _
 unfold Ga
 refine OkP.bind (SK s hs a a0 a1) fun g _ hg => OkP.condNE (fun he => OkP.map (OkP.ret fun h => absurd h he)) (fun he => ?_)
 obtain ⟨g1,g2⟩ := hg he
 have hm2 : ∀ x ∈ l ++ [g.T],x.Text.size ≤ 1000 := fun x hx => by
  rcases List.mem_append.mp hx with h | h
  · exact hm x h
  · simp at h; subst h; exact g2
 refine OkP.grd (by simp; omega) (OkP.condE (fun _ => OkP.map (OkP.ret fun _ => ⟨⟨by simp; omega,hm2⟩,by simp⟩)) (fun hk => OkP.ret ?_))
 obtain ⟨n1,n2⟩ := g1 hk
 refine ⟨⟨by show 0 ≤ g.Next; omega,n2,?_,hm2⟩,?_⟩
 · show ((l ++ [g.T]).length : Int) ≤ g.Next
   simp; omega
 · show ((s.size : Int) - g.Next).toNat < ((s.size : Int) - a).toNat
   omega
end Go.Ab
end
section
namespace Go.Ab
set_option linter.unusedVariables false
inductive Cls | E | S | C | R | B | P | U | D
abbrev nmR (s : ByteArray) : Prop := BN s = some true
inductive Fd (x : Aa) : Cls → List Cls → Prop
 | num (h : x.Op = 1) (k : x.Kids = 0) : Fd x .E []
 | name (h : x.Op = 2) (k : x.Kids = 0) : Fd x .E []
 | un (h : x.Op = 3 ∨ x.Op = 4) (k : x.Kids = 1) : Fd x .E [.E]
 | bin (h0 : 5 ≤ x.Op) (h1 : x.Op ≤ 17) (k : x.Kids = 2) : Fd x .E [.E,.E]
 | ref0 (h : x.Op = 33) (k : x.Kids = 0) : Fd x .R []
 | ref1 (h : x.Op = 33) (k : x.Kids = 1) : Fd x .R [.E]
 | block (h : x.Op = 32) (n : Nat) (k : x.Kids = n) : Fd x .B (List.replicate n .S)
 | par (h : x.Op = 39) (k : x.Kids = 0) : Fd x .P []
 | unit (h : x.Op = 42) (n : Nat) (k : x.Kids = n) : Fd x .U (List.replicate n .D)
 | chan (h : x.Op = 38) (k : x.Kids = 0) (n0 : 0 ≤ x.N) (n1 : x.N ≤ 16) (nm : nmR x.Name) : Fd x .D []
 | main (h : x.Op = 41) (k : x.Kids = 1) : Fd x .D [.B]
 | proc (h : x.Op = 40) (n : Nat) (k : x.Kids = n + 1) (nm : nmR x.Name) : Fd x .D (List.replicate n .P ++ [.B])
 | st1 (h : x.Op = 18 ∨ x.Op = 19 ∨ x.Op = 20 ∨ x.Op = 27 ∨ x.Op = 28 ∨ x.Op = 29) (k : x.Kids = 1) : Fd x .S [.E]
 | send (h : x.Op = 21) (k : x.Kids = 2) : Fd x .S [.R,.E]
 | recv (h : x.Op = 22) (k : x.Kids = 1) : Fd x .S [.R]
 | if2 (h : x.Op = 23) (k : x.Kids = 2) : Fd x .S [.E,.B]
 | if3 (h : x.Op = 23) (k : x.Kids = 3) : Fd x .S [.E,.B,.B]
 | while (h : x.Op = 24) (k : x.Kids = 2) : Fd x .S [.E,.B]
 | sel (h : x.Op = 25) (n : Nat) (k : x.Kids = n) : Fd x .S (List.replicate n .C)
 | start (h : x.Op = 26) (n : Nat) (k : x.Kids = n) : Fd x .S (List.replicate n .E)
 | nul (h : x.Op = 30 ∨ x.Op = 31) (k : x.Kids = 0) : Fd x .S []
 | els (h : x.Op = 37) (n0 : x.N = 0) (k : x.Kids = 1) : Fd x .C [.B]
 | onr0 (h : x.Op = 34) (n0 : x.N = 0) (k : x.Kids = 2) : Fd x .C [.R,.B]
 | onr1 (h : x.Op = 34) (n0 : x.N = 1) (k : x.Kids = 3) : Fd x .C [.E,.R,.B]
 | ons0 (h : x.Op = 35) (n0 : x.N = 0) (k : x.Kids = 3) : Fd x .C [.R,.E,.B]
 | ons1 (h : x.Op = 35) (n0 : x.N = 1) (k : x.Kids = 4) : Fd x .C [.E,.R,.E,.B]
 | aft0 (h : x.Op = 36) (n0 : x.N = 0) (k : x.Kids = 2) : Fd x .C [.E,.B]
 | aft1 (h : x.Op = 36) (n0 : x.N = 1) (k : x.Kids = 3) : Fd x .C [.E,.E,.B]
theorem Fd.len {x : Aa} {c : Cls} {kc : List Cls} (h : Fd x c kc) : x.Kids = kc.length := by
 cases h <;> simp [*]
inductive Pcs (l : List Aa) : List Cls → Nat → Nat → List Nat → Prop
 | nil (i : Nat) : Pcs l [] i i []
 | cons (c : Cls) (cs : List Cls) (i j k : Nat) (x : Aa) (kc : List Cls) (ks ss : List Nat) (hx : l[i]? = some x) (hs : Fd x c kc) (hk : Pcs l kc (i + 1) j ks) (hr : Pcs l cs j k ss) : Pcs l (c :: cs) i k (i :: ss)
theorem Pcs.le {l : List Aa} {cs : List Cls} {i k : Nat} {ss : List Nat} (h : Pcs l cs i k ss) : i ≤ k ∧ (cs ≠ [] → i < k ∧ k ≤ l.length) ∧ ss.length = cs.length := by
 induction h with
 | nil i => exact ⟨Nat.le_refl _,fun h => absurd rfl h,rfl⟩
 | cons c cs i j k x kc ks ss hx hs hk hr ih1 ih2 =>
   have hi : i < l.length := (List.getElem?_eq_some_iff.mp hx).1
   refine ⟨by omega,fun _ => ⟨by omega,?_⟩,by simp [ih2.2.2]⟩
   by_cases hc : cs = []
   · subst hc
     cases hr
     by_cases hk' : kc = []
     · subst hk'
       cases hk
       omega
     · exact (ih1.2.1 hk').2
   · exact (ih2.2.1 hc).2
theorem Pcs.app {l : List Aa} {cs ds : List Cls} {i j k : Nat} {ss ts : List Nat} (h : Pcs l cs i j ss) (h2 : Pcs l ds j k ts) : Pcs l (cs ++ ds) i k (ss ++ ts) := by
 induction h with
 | nil i => exact h2
 | cons c cs i j' k' x kc ks ss hx hs hk hr ih1 ih2 => exact .cons c _ i j' k x kc ks _ hx hs hk (ih2 h2)
theorem Pcs.at_ {l : List Aa} {c : Cls} {i j : Nat} {ss : List Nat} (h : Pcs l [c] i j ss) : ∃ x kc ks,l[i]? = some x ∧ Fd x c kc ∧ Pcs l kc (i + 1) j ks ∧ ss = [i] := by
 cases h with
 | cons c cs i j' k x kc ks ss hx hs hk hr => cases hr; exact ⟨x,kc,ks,hx,hs,hk,rfl⟩
theorem Pcs.mk1 {l : List Aa} {c : Cls} {i j : Nat} {x : Aa} {kc : List Cls} {ks : List Nat} (hx : l[i]? = some x) (hs : Fd x c kc) (hk : Pcs l kc (i + 1) j ks) : Pcs l [c] i j [i] := .cons c [] i j j x kc ks [] hx hs hk (.nil j)
theorem Pcs.split {l : List Aa} {c : Cls} {cs : List Cls} {i k : Nat} {ss : List Nat} (h : Pcs l (c :: cs) i k ss) : ∃ j ts,Pcs l [c] i j [i] ∧ Pcs l cs j k ts ∧ ss = i :: ts := by
 cases h with
 | cons c cs i j k x kc ks ss hx hs hk hr => exact ⟨j,ss,Pcs.mk1 hx hs hk,hr,rfl⟩
theorem RH {l : List Aa} (hl : l.length ≤ 3000) {cs : List Cls} {i k : Nat} {ss : List Nat} (h : Pcs l cs i k ss) : ∀ n,k - i < n → ∀ (p m : Nat) (x : Aa),l[p]? = some x → m + cs.length = x.Kids → m ≤ i → i ≤ l.length →
    Loop (fun s : (Int × Int) => BZ (Bi n) l p s.1 s.2) ((i : Int),(m : Int)) = some (k : Int) := by
 induction h with
 | nil i =>
   intro n hn p m x hx hm h3 hil
   refine Loop_inr ?_
   show BZ _ l p i m = _
   unfold BZ
   rw [lAtn,hx]
   show cond (decide ((m : Int) < x.Kids)) _ _ = _
   rw [dcf (by simp at hm; omega)]; rfl
 | cons c cs i j k y kc ks ss hy hs hk hr ih1 ih2 =>
   intro n hn p m x hx hm h3 hil
   have hi : i < l.length := (List.getElem?_eq_some_iff.mp hy).1
   have l1 := hk.le; have l2 := hr.le
   have hl1 := hs.len
   obtain ⟨n,rfl⟩ : ∃ n',n = n' + 1 := ⟨n - 1,by omega⟩
   have e1 : Bi (n + 1) l i = some (j : Int) := by
    show CO (Bi n) l i = _
    unfold CO
    rw [dcf (by omega),dcf (by omega)]
    show Loop (fun s : (Int × Int) => BZ (Bi n) l i s.1 s.2) (w64 ((i : Int) + 1),0) = _
    rw [w64s (by omega)]
    exact ih1 n (by omega) i 0 y hy (by omega) (by omega) (by omega)
   have hjl : j ≤ l.length := by
    by_cases hkc : kc = []
    · subst hkc; cases hk; omega
    · exact (l1.2.1 hkc).2
   have st : BZ (Bi (n + 1)) l p i m = some (.inl ((j : Int),((m + 1 : Nat) : Int))) := by
    unfold BZ
    rw [lAtn,hx]
    show cond (decide ((m : Int) < x.Kids)) (F8 _ l i m (decide ((i : Int) < (l.length : Int)))) _ = _
    rw [dct (by simp at hm; omega),dct (by omega)]
    show ((Bi (n + 1) l i).bind _) = _
    rw [e1]
    show some (Sum.inl ((j : Int),w64 ((m : Int) + 1))) = _
    rw [w64s (by omega)]
   rw [Loop_inl st]
   exact ih2 (n + 1) (by omega) p (m + 1) x hx (by simp at hm ⊢; omega) (by omega) hjl
theorem KQ {l : List Aa} (hl : l.length ≤ 3000) {c : Cls} {i j : Nat} (h : Pcs l [c] i j [i]) : Bz l i = some (j : Int) := by
 obtain ⟨x,kc,ks,hx,hs,hk,_⟩ := h.at_
 have hi : i < l.length := (List.getElem?_eq_some_iff.mp hx).1
 have hle := h.le
 have hj := (hle.2.1 (by simp)).2
 show CO (Bi 3999) l i = _
 unfold CO
 rw [dcf (by omega),dcf (by omega)]
 show Loop (fun s : (Int × Int) => BZ (Bi 3999) l i s.1 s.2) (w64 ((i : Int) + 1),0) = _
 rw [w64s (by omega)]
 exact RH hl hk 3999 (by omega) i 0 x hx (by rw [hs.len]; omega) (by omega) (by omega)
abbrev DK (l : List Nat) : List Int := l.map fun n : Nat => (n : Int)
theorem QM {l : List Aa} (hl : l.length ≤ 3000) {cs : List Cls} {i k : Nat} {ss : List Nat} (h : Pcs l cs i k ss) : ∀ (p m : Nat) (x : Aa) (acc : List Int),l[p]? = some x → m + cs.length = x.Kids → m ≤ i → acc.length = m → i ≤ l.length →
    Loop (fun s : (Int × Int × (List Int)) => Ce l p s.1 s.2.1 s.2.2) ((i : Int),(m : Int),acc) = some (acc ++ DK ss) := by
 induction h with
 | nil i =>
   intro p m x acc hx hm h3 hac hil
   refine Loop_inr ?_
   show Ce l p i m acc = _
   unfold Ce
   rw [lAtn,hx]
   show cond (decide ((m : Int) < x.Kids)) _ _ = _
   rw [dcf (by simp at hm; omega)]
   show some (Sum.inr acc) = _
   simp
 | cons c cs i j k y kc ks ss hy hs hk hr ih1 ih2 =>
   intro p m x acc hx hm h3 hac hil
   have hi : i < l.length := (List.getElem?_eq_some_iff.mp hy).1
   have l1 := hk.le
   have e1 := KQ hl (Pcs.mk1 hy hs hk)
   have hjl : j ≤ l.length := ((Pcs.mk1 hy hs hk).le.2.1 (by simp)).2
   have st : Ce l p i m acc = some (.inl ((j : Int),((m + 1 : Nat) : Int),acc ++ [(i : Int)])) := by
    unfold Ce
    rw [lAtn,hx]
    show cond (decide ((m : Int) < x.Kids)) (FV l i m acc (decide ((i : Int) < (l.length : Int)))) _ = _
    rw [dct (by simp at hm; omega),dct (by omega)]
    show grd ((acc.length + [(i : Int)].length) * 8 ≤ 140737488355328) ((Bz l i).bind _) = _
    rw [JF (by simp; omega),e1]
    show some (Sum.inl ((j : Int),w64 ((m : Int) + 1),acc ++ [(i : Int)])) = _
    rw [w64s (by omega)]
   rw [Loop_inl st,ih2 p (m + 1) x _ hx (by simp at hm ⊢; omega) (by omega) (by simp [hac]) hjl]
   simp
theorem J5 {l : List Aa} (hl : l.length ≤ 3000) {c : Cls} {kc : List Cls} {i j : Nat} {x : Aa} {ks : List Nat} (hx : l[i]? = some x) (hs : Fd x c kc) (hk : Pcs l kc (i + 1) j ks) : AP l i = some (DK ks) := by
 have hi : i < l.length := (List.getElem?_eq_some_iff.mp hx).1
 unfold AP
 rw [dcf (by omega),dcf (by omega)]
 show Loop (fun s : (Int × Int × (List Int)) => Ce l i s.1 s.2.1 s.2.2) (w64 ((i : Int) + 1),0,([] : List Int)) = _
 rw [w64s (by omega)]
 exact QM hl hk i 0 x [] hx (by rw [hs.len]; omega) (by omega) rfl (by omega)
theorem Hw {l : List Aa} (hl : l.length ≤ 3000) {c : Cls} {kc : List Cls} {i j : Nat} {x : Aa} {ks : List Nat} (hx : l[i]? = some x) (hs : Fd x c kc) (hk : Pcs l kc (i + 1) j ks) (q : Nat) (hq : q < ks.length) : AD l i q = some (ks[q] : Int) := by
 unfold AD
 rw [J5 hl hx hs hk]
 show cond (decide ((q : Int) < 0)) (E4 q (DK ks) true) (E4 q (DK ks) (decide (((DK ks).length : Int) ≤ q))) = _
 rw [dcf (by omega),dcf (by simp; omega)]
 show ((lAt (DK ks) q).bind fun y11 => some y11) = _
 rw [Gw (by simpa using hq)]
 simp
theorem Pcs.all {l : List Aa} {cs : List Cls} {i k : Nat} {ss : List Nat} (h : Pcs l cs i k ss) : ∀ p,i ≤ p → p < k → ∃ c j,Pcs l [c] p j [p] ∧ j ≤ k := by
 induction h with
 | nil i => intro p h1 h2; omega
 | cons c cs i j k x kc ks ss hx hs hk hr ih1 ih2 =>
   intro p h1 h2
   have := hr.le
   rcases Nat.lt_or_ge p j with h3 | h3
   · by_cases h4 : p = i
     · subst h4; exact ⟨c,j,Pcs.mk1 hx hs hk,by omega⟩
     · obtain ⟨c',j',e1,e2⟩ := ih1 p (by omega) h3
       exact ⟨c',j',e1,by omega⟩
   · exact ih2 p h3 h2
def inner (c : Cls) : Bool := match c with | .E | .S | .C | .R | .B => true | _ => false
def GD (c : Cls) : Bool := match c with | .E | .R => true | _ => false
theorem Fd.inner {x : Aa} {c : Cls} {kc : List Cls} (h : Fd x c kc) (hc : Go.Ab.inner c = true) : (∀ d ∈ kc,Go.Ab.inner d = true) ∧ (x.Op < 38) ∧ (GD c = true → (∀ d ∈ kc,GD d = true) ∧ (x.Op < 18 ∨ 31 < x.Op)) := by
 cases h <;> first | exact absurd hc (by decide) | (refine ⟨fun d hd => ?_,by omega,fun ht => ?_⟩ <;> first | exact absurd ht (by decide) | (simp at hd; rcases hd with ⟨_,rfl⟩ <;> rfl) | (simp at hd; rcases hd with rfl | rfl | rfl | rfl <;> rfl) | (simp at hd; rcases hd with rfl | rfl | rfl <;> rfl) | (simp at hd; rcases hd with rfl | rfl <;> rfl) | (simp at hd; subst hd; rfl) | (simp at hd; done) | (refine ⟨fun d hd => ?_,by omega⟩; first | (simp at hd; rcases hd with rfl | rfl <;> rfl) | (simp at hd; subst hd; rfl) | (simp at hd; done)))
theorem Pcs.inner {l : List Aa} {cs : List Cls} {i k : Nat} {ss : List Nat} (h : Pcs l cs i k ss) : (∀ d ∈ cs,Go.Ab.inner d = true) → ∀ p x,i ≤ p → p < k → l[p]? = some x → x.Op < 38 ∧ ((∀ d ∈ cs,GD d = true) → x.Op < 18 ∨ 31 < x.Op) := by
 induction h with
 | nil i => intro _ p x h1 h2; omega
 | cons c cs i j k y kc ks ss hy hs hk hr ih1 ih2 =>
   intro hc p x h1 h2 hx
   obtain ⟨a1,a2,a3⟩ := hs.inner (hc c (by simp))
   rcases Nat.lt_or_ge p j with h3 | h3
   · by_cases h4 : p = i
     · subst h4; rw [hy] at hx; cases hx
       exact ⟨a2,fun ht => (a3 (ht c (by simp))).2⟩
     · have := ih1 a1 p x (by omega) h3 hx
       exact ⟨this.1,fun ht => this.2 (a3 (ht c (by simp))).1⟩
   · have := ih2 (fun d hd => hc d (by simp [hd])) p x h3 h2 hx
     exact ⟨this.1,fun ht => this.2 fun d hd => ht d (by simp [hd])⟩
end Go.Ab
end
section
namespace Go.Ab
set_option linter.unusedVariables false
def cB : Cls → ByteArray
 | .E => ⟨#[69]⟩ | .S => ⟨#[83]⟩ | .C => ⟨#[67]⟩ | .R => ⟨#[82]⟩ | .B => ⟨#[66]⟩ | .P => ⟨#[80]⟩ | .U => ⟨#[85]⟩ | .D => ⟨#[68]⟩
def NI (l : List Aa) : Prop := ∀ x ∈ l,x.Name.size ≤ 1000 ∧ -10 ≤ x.Kids ∧ x.Kids ≤ 1000000
def PG (l : List Aa) (cs : List Cls) (a : Nat) (r : Ae) : Prop := r.Ok = true → ∃ (j : Nat) (ss : List Nat),r.At = j ∧ Pcs l cs a j ss
theorem PG.one {l : List Aa} {c : Cls} {a : Nat} {r : Ae} (h : PG l [c] a r) (hr : r.Ok = true) : ∃ j : Nat,r.At = j ∧ Pcs l [c] a j [a] ∧ a < j ∧ j ≤ l.length := by
 obtain ⟨j,ss,h1,h2⟩ := h hr
 obtain ⟨x,kc,ks,hx,hs,hk,rfl⟩ := h2.at_
 have := h2.le.2.1 (by simp)
 exact ⟨j,h1,h2,this⟩
theorem PG.no {l : List Aa} {cs : List Cls} {a : Nat} {p : Int} : PG l cs a ⟨p,false⟩ := fun h => by cases h
abbrev PSelf := List Aa → Int → ByteArray → Option Ae
theorem Sh (l : List Aa) (hl : l.length ≤ 3000) (self : PSelf) (a0 : Nat) (hs : ∀ (a : Nat) (c : Cls),a0 ≤ a → OkP (self l a (cB c)) (PG l [c] a)) (c : Cls) (n : Int) (hn : n ≤ 1000000) (ok : Bool) (h0 : a0 ≤ l.length + 1) :
    OkP (Bh self l ⟨a0,ok⟩ (cB c) n) (fun r => r.Ok = true → ok = true ∧ PG l (List.replicate n.toNat c) a0 r) := by
 unfold Bh
 refine Fm (S := Int × Int × Bool) (fun s => ∃ k : Nat,s.1 = k ∧ (k : Int) ≤ max n 0 ∧ (s.2.2 = true → ok = true ∧ ∃ (a : Nat) (ss : List Nat),s.2.1 = a ∧ a0 + k ≤ a ∧ a ≤ l.length + 1 ∧ Pcs l (List.replicate k c) a0 a ss)) (fun s => cond s.2.2 (1 + (l.length + 1 - s.2.1).toNat) 0) ?_ _ ⟨0,rfl,by omega,fun h => ⟨h,a0,[],rfl,by omega,h0,.nil a0⟩⟩
 rintro ⟨x,at_,b⟩ ⟨k,hk,hkn,hI⟩
 replace hk : x = k := hk
 subst hk
 show OkP (D2 self l (cB c) n k at_ b) _
 unfold D2
 have fin : ∀ b : Bool,(b = true → n ≤ k) → (b = true → ok = true ∧ ∃ (a : Nat) (ss : List Nat),at_ = a ∧ a0 + k ≤ a ∧ a ≤ l.length + 1 ∧ Pcs l (List.replicate k c) a0 a ss) → ((⟨at_,b⟩ : Ae).Ok = true → ok = true ∧ PG l (List.replicate n.toNat c) a0 ⟨at_,b⟩) := by
  intro b hb hI h
  obtain ⟨h1,a,ss,h2,_,_,h3⟩ := hI h
  have := hb h
  refine ⟨h1,fun _ => ⟨a,ss,h2,?_⟩⟩
  rw [show n.toNat = k by omega]; exact h3
 refine OkP.condD (fun hv => ?_) (fun hv => ?_)
 · cases b with
   | false => exact OkP.map (OkP.ret (fin false (fun h => by cases h) (fun h => by cases h)))
   | true =>
     obtain ⟨h1,a,ss,rfl,h3,h3',h4⟩ := hI rfl
     show OkP ((self l a (cB c)).bind fun y31 => some (Sum.inl (w64 ((k : Int) + 1),y31.At,y31.Ok))) _
     refine OkP.bind (hs a c (by omega)) fun y hy pg => OkP.ret ?_
     rw [w64s (by omega)]
     refine ⟨⟨k + 1,rfl,by omega,fun hb => ?_⟩,?_⟩
     · obtain ⟨j,e1,e2,e3,e4⟩ := pg.one hb
       refine ⟨h1,j,ss ++ [a],e1,by omega,by omega,?_⟩
       rw [List.replicate_succ']
       exact h4.app e2
     · show cond y.Ok _ _ < 1 + (l.length + 1 - (a : Int)).toNat
       cases hb : y.Ok with
       | false => show 0 < _; omega
       | true =>
         obtain ⟨j,e1,e2,e3,e4⟩ := pg.one hb
         show 1 + ((l.length : Int) + 1 - y.At).toNat < _
         omega
 · exact OkP.map (OkP.ret (fin b (fun _ => by omega) hI))
theorem Qt (l : List Aa) (hl : l.length ≤ 3000) (self : PSelf) (a0 : Nat) (hs : ∀ (a : Nat) (c : Cls),a0 ≤ a → OkP (self l a (cB c)) (PG l [c] a)) (cs : List Cls) (w : ByteArray) (hw : w.size = cs.length) (h10 : cs.length ≤ 10) (hx : ∀ (k : Nat) (h : k < cs.length),w.extract k (k + 1) = cB cs[k]) (at0 : Int) (ok : Bool) (h0 : ok = true → at0 = a0) :
    OkP (AH self l ⟨at0,ok⟩ w) (fun r => r.Ok = true → ok = true ∧ PG l cs a0 r) := by
 unfold AH
 refine Fm (S := Int × Int × Bool) (fun s => ∃ k : Nat,s.1 = k ∧ k ≤ cs.length ∧ (s.2.2 = true → ok = true ∧ ∃ (a : Nat) (ss : List Nat),s.2.1 = a ∧ a0 ≤ a ∧ Pcs l (cs.take k) a0 a ss)) (fun s => (cs.length - s.1).toNat) ?_ _ ⟨0,rfl,by omega,fun h => ⟨h,a0,[],h0 h,by omega,.nil a0⟩⟩
 rintro ⟨x,at_,b⟩ ⟨k,hk,hkn,hI⟩
 replace hk : x = k := hk
 subst hk
 show OkP (D1 self l w k at_ b) _
 unfold D1
 rw [hw]
 have fin : ∀ b : Bool,(b = true → k = cs.length) → (b = true → ok = true ∧ ∃ (a : Nat) (ss : List Nat),at_ = a ∧ a0 ≤ a ∧ Pcs l (cs.take k) a0 a ss) → ((⟨at_,b⟩ : Ae).Ok = true → ok = true ∧ PG l cs a0 ⟨at_,b⟩) := by
  intro b hb hI h
  obtain ⟨h1,a,ss,h2,_,h3⟩ := hI h
  have := hb h
  subst this
  rw [List.take_length] at h3
  exact ⟨h1,fun _ => ⟨a,ss,h2,h3⟩⟩
 refine OkP.condD (fun hv => ?_) (fun hv => ?_)
 · cases b with
   | false => exact OkP.map (OkP.ret (fin false (fun h => by cases h) (fun h => by cases h)))
   | true =>
     obtain ⟨h1,a,ss,rfl,h3,h4⟩ := hI rfl
     have hk' : k < cs.length := by omega
     show OkP (grd ((0 : Int) ≤ k ∧ (k : Int) ≤ w64 ((k : Int) + 1) ∧ w64 ((k : Int) + 1) ≤ (w.size : Int)) <| (self l a (w.extract (Int.toNat k) (Int.toNat (w64 ((k : Int) + 1))))).bind fun y35 => some (Sum.inl (w64 ((k : Int) + 1),y35.At,y35.Ok))) _
     rw [w64s (by omega),hw]
     refine OkP.grd (by omega) ?_
     rw [show Int.toNat (k : Int) = k by omega,show Int.toNat ((k + 1 : Nat) : Int) = k + 1 by omega,hx k hk']
     refine OkP.bind (hs a _ (by omega)) fun y hy pg => OkP.ret ?_
     refine ⟨⟨k + 1,rfl,by omega,fun hb => ?_⟩,?_⟩
     · obtain ⟨j,e1,e2,e3,e4⟩ := pg.one hb
       refine ⟨h1,j,ss ++ [a],e1,by omega,?_⟩
       rw [HY hk']
       exact h4.app e2
     · show ((cs.length : Int) - ((k + 1 : Nat) : Int)).toNat < ((cs.length : Int) - (k : Int)).toNat
       omega
 · exact OkP.map (OkP.ret (fin b (fun _ => by omega) hI))
theorem N1 (x : Aa) (h : x.Name.size ≤ 1000) (k : Int) : OkP (BM x k) (fun b => b = true → nmR x.Name ∧ x.N = 0 ∧ x.Kids = k) := by
 unfold BM
 obtain ⟨y,e,_⟩ := OF x.Name (by show _ ≤ 9223372036854775807; omega)
 rw [e]
 show OkP (cond y _ _) _
 refine OkP.condB (fun hy => OkP.condE (fun hN => OkP.ret fun hk => ⟨by subst hy; exact e,hN,by simpa using hk⟩) (fun _ => OkP.ret fun h => by cases h)) (fun _ => OkP.ret fun h => by cases h)
theorem bareE (x : Aa) (k : Int) : OkP (AX x k) (fun b => b = true → x.N = 0 ∧ x.Kids = k) := by
 unfold AX
 refine OkP.condB (fun hy => OkP.condE (fun hN => OkP.ret fun hk => ⟨hN,by simpa using hk⟩) (fun _ => OkP.ret fun h => by cases h)) (fun _ => OkP.ret fun h => by cases h)
end Go.Ab
end
section
namespace Go.Ab
set_option linter.unusedVariables false
abbrev bE : ByteArray := ⟨#[]⟩
theorem Jp {toks : List Af} (tk : TK toks) (i : Int) (h0 : 0 ≤ i) : OkP (A7 toks i) (fun t => t.Text.size ≤ 1000 ∧ (t.Kind ≠ 0 → i < toks.length)) := by
 unfold A7
 exact OkP.condD (fun h => OkP.bind (QL h0 h) fun t _ hm => OkP.ret ⟨tk.txt t hm,fun _ => h⟩) (fun _ => OkP.ret ⟨by decide,fun h => absurd rfl h⟩)
theorem S6 (s : ByteArray) : Ok (GA s) := by
 unfold GA
 refine I0 13 (by omega) (fun _ => True) (fun i h0 h1 _ => ?_) trivial
 unfold HA
 refine OkP.condD (fun h => ?_) (fun _ => OkP.map (OkP.ret trivial))
 have h13 : i < 13 := h
 refine OkP.at h0 h fun y _ => OkP.condB (fun _ => OkP.map (OkP.ret trivial)) (fun _ => OkP.ret ⟨h13,rfl,trivial⟩)
theorem Ry (op : Int) : Ok (Gr op) := by
 have hs : OkP (Hz) (fun l => l.length ≤ 10 ∧ ∀ x ∈ l,x.length ≤ 10) := ⟨_,rfl,by decide,by decide⟩
 have j2 : ∀ b,Ok (Ej op b) := fun b => by
  unfold Ej
  refine OkP.condB (fun _ => OkP.rett _) (fun _ => OkP.bind hs fun l _ ⟨hl,hm⟩ => ?_)
  refine I0 l.length (by omega) (fun _ => True) (fun i h0 h1 _ => ?_) trivial
  obtain ⟨n,rfl⟩ := Int.eq_ofNat_of_zero_le h0
  unfold GQ
  refine OkP.condD (fun h => ?_) (fun _ => OkP.map (OkP.ret trivial))
  have hn : n < l.length := by omega
  have hx := hm l[n] (List.getElem_mem _)
  refine I0 (R := (Int ⊕ Int)) l[n].length (by omega) (fun _ => True) (fun k k0 k1 _ => ?_) trivial
  unfold GR
  rw [Gw hn]
  show OkP (cond (decide (k < (l[n].length : Int))) _ _) _
  refine OkP.condD (fun hk => ?_) (fun _ => OkP.map (OkP.ret ⟨h,rfl,trivial⟩))
  show OkP ((lAt l[n] k).bind _) _
  refine OkP.at k0 hk fun y _ => OkP.bind (S6 y) fun z _ _ => OkP.condB (fun _ => OkP.map (OkP.map (OkP.ret trivial))) (fun _ => OkP.ret ⟨hk,rfl,trivial⟩)
 have j1 : ∀ b,Ok (Ek op b) := fun b => by
  unfold Ek
  exact OkP.condB (fun _ => OkP.rett _) (fun _ => OkP.condB (fun _ => j2 _) (fun _ => j2 _))
 unfold Gr
 exact OkP.condB (fun _ => j1 _) (fun _ => j1 _)
theorem NI.nil : NI [] := fun x h => by cases h
theorem NI.app {a b : List Aa} (h : NI a) (h2 : NI b) : NI (a ++ b) := fun x hx => (List.mem_append.mp hx).elim (h x) (h2 x)
theorem NI.one {x : Aa} (h : x.Name.size ≤ 1000) (h0 : -10 ≤ x.Kids) (h1 : x.Kids ≤ 1000000) : NI [x] := fun y hy => by simp at hy; subst hy; exact ⟨h,h0,h1⟩
structure TG (toks : List Af) (a : Int) (g : Ag) : Prop where
 at0 : 0 ≤ g.At
 len : g.L.length ≤ 2000
 ok : g.E = 0 → a < g.At ∧ g.At ≤ toks.length ∧ (g.L.length : Int) + 1 ≤ 2 * (g.At - a) ∧ NI g.L
theorem TG.err {toks : List Af} {a p e : Int} (h0 : 0 ≤ p) (he : e ≠ 0) : TG toks a ⟨[],p,e⟩ := ⟨h0,by show 0 ≤ 2000; omega,fun h => absurd h he⟩
abbrev Lv := List Af → Int → Int → Int → Option Ag
abbrev On := List Af → Int → Int → Option Ag
section
variable {toks : List Af} (tk : TK toks)
include tk
theorem S7 (sf1 : Lv) (sf2 : On) (a deep : Int) (a0 : 0 ≤ a) (a1 : a ≤ 2000) (d0 : 0 ≤ deep) (d1 : deep ≤ 24) (h1 : deep < 24 → a < toks.length → OkP (sf1 toks (a + 1) 1 (deep + 1)) (TG toks (a + 1))) (h2 : deep < 24 → a < toks.length → OkP (sf2 toks (a + 1) (deep + 1)) (TG toks (a + 1))) :
    OkP (Gq sf1 sf2 toks a deep) (TG toks a) := by
 have hl := tk.len
 unfold Gq
 refine OkP.bind (Jp tk a a0) fun t et ⟨t1,t2⟩ => ?_
 have leaf : a < toks.length → ∀ x : Aa,x.Name.size ≤ 1000 → x.Kids = 0 → TG toks a ⟨[x],w64 (a + 1),0⟩ := fun h x hx hk => by
  rw [w64i (by omega) (by omega)]
  exact ⟨by show 0 ≤ a + 1; omega,by show 1 ≤ 2000; omega,fun _ => ⟨by show a < a + 1; omega,by show a + 1 ≤ (toks.length : Int); omega,by show (1 : Int) + 1 ≤ 2 * (a + 1 - a); omega,NI.one hx (by omega) (by omega)⟩⟩
 have j1 : ∀ b : Bool,(b = false → t.Kind = 4) → OkP (C2 sf1 sf2 toks a deep t b) (TG toks a) := fun b hb => by
  unfold C2
  refine OkP.condB (fun _ => OkP.ret (TG.err a0 (by omega))) (fun hf => OkP.condE (fun _ => OkP.ret (TG.err a0 (by omega))) (fun h24 => ?_))
  have hk := hb hf
  have hlt := t2 (by omega)
  rw [w64i (n := a + 1) (by omega) (by omega),w64i (n := deep + 1) (by omega) (by omega)]
  refine OkP.condB (fun _ => ?_) (fun _ => ?_)
  · refine OkP.bind (h1 (by omega) hlt) fun g _ hg => OkP.condNE (fun he => OkP.ret ⟨hg.at0,hg.len,fun h => absurd h he⟩) (fun he => ?_)
    obtain ⟨g1,g2,g3,g4⟩ := hg.ok he
    refine OkP.bind (Jp tk g.At hg.at0) fun t' _ ⟨_,t3⟩ => ?_
    have j2 : ∀ b : Bool,(b = false → t'.Kind = 4) → OkP (E1 sf1 sf2 g b) (TG toks a) := fun b hb => by
     unfold E1
     refine OkP.condB (fun _ => OkP.ret (TG.err hg.at0 (by omega))) (fun hf => OkP.ret ?_)
     have := t3 (by rw [hb hf]; omega)
     rw [w64i (by omega) (by omega)]
     exact ⟨by show 0 ≤ g.At + 1; omega,hg.len,fun _ => ⟨by show a < g.At + 1; omega,by show g.At + 1 ≤ (toks.length : Int); omega,by show (g.L.length : Int) + 1 ≤ 2 * (g.At + 1 - a); omega,g4⟩⟩
    exact OkP.condNE (fun _ => j2 true (by simp)) (fun h4 => j2 _ fun _ => h4)
  · refine OkP.bind (h2 (by omega) hlt) fun g _ hg => OkP.condNE (fun he => OkP.ret ⟨hg.at0,hg.len,fun h => absurd h he⟩) (fun he => ?_)
    obtain ⟨g1,g2,g3,g4⟩ := hg.ok he
    have j3 : ∀ o : Int,OkP (E0 sf1 sf2 t g o) (TG toks a) := fun o => by
     unfold E0
     refine OkP.grd (by simp; omega) (OkP.ret ⟨hg.at0,?_,fun _ => ⟨by show a < g.At; omega,g2,?_,NI.app (NI.one (by show (bE).size ≤ 1000; decide) (by show (-10 : Int) ≤ 1; omega) (by show (1 : Int) ≤ 1000000; omega)) g4⟩⟩)
     · show ([_] ++ g.L).length ≤ 2000
       simp; omega
     · show (([_] ++ g.L).length : Int) + 1 ≤ 2 * (g.At - a)
       simp; omega
    exact OkP.condB (fun _ => j3 4) (fun _ => j3 3)
 refine OkP.condE (fun h => OkP.ret (leaf (t2 (by omega)) _ (by show (bE).size ≤ 1000; decide) rfl)) (fun _ => OkP.condE (fun h => OkP.ret (leaf (t2 (by omega)) _ t1 rfl)) (fun _ => OkP.condNE (fun _ => j1 true (by simp)) (fun h4 => ?_)))
 exact OkP.condB (fun _ => OkP.condB (fun _ => j1 _ fun _ => h4) (fun _ => j1 _ fun _ => h4)) (fun _ => j1 _ fun _ => h4)
theorem Tf (sf1 : Lv) (sf2 : On) (a n deep : Int) (a0 : 0 ≤ a) (a1 : a ≤ 2000) (n1 : 1 ≤ n) (n6 : n ≤ 6) (h1 : n < 6 → ∀ b,a ≤ b → b ≤ 2000 → OkP (sf1 toks b (n + 1) deep) (TG toks b)) (h2 : n = 6 → OkP (sf2 toks a deep) (TG toks a)) :
    OkP (FS sf1 sf2 toks a n deep) (TG toks a) := by
 have hl := tk.len
 unfold FS
 refine OkP.condE (fun h6 => OkP.bind (h2 h6) fun g _ hg => OkP.ret hg) (fun h6 => ?_)
 rw [w64i (n := n + 1) (by omega) (by omega)]
 refine OkP.bind (h1 (by omega) a (by omega) a1) fun g _ hg => ?_
 refine Fm (S := List Aa × Int × Int) (fun s => TG toks a ⟨s.1,s.2.1,s.2.2⟩) (fun s => cond (s.2.2 == 0) (1 + ((toks.length : Int) - s.2.1).toNat) 0) ?_ _ hg
 rintro ⟨L,p,e⟩ hI
 replace hI : TG toks a ⟨L,p,e⟩ := hI
 show OkP (Ft sf1 sf2 toks n deep L p e) _
 unfold Ft
 refine OkP.condE (fun he => ?_) (fun _ => OkP.map (OkP.ret hI))
 subst he
 obtain ⟨i1,i2,i3,i4⟩ := hI.ok rfl
 replace i1 : a < p := i1
 replace i2 : p ≤ toks.length := i2
 replace i3 : (L.length : Int) + 1 ≤ 2 * (p - a) := i3
 refine OkP.bind (Jp tk p (by omega)) fun t _ ⟨t1,t2⟩ => OkP.bind (S6 _) fun o _ _ => ?_
 have j1 : ∀ b : Bool,(b = false → t.Kind = 4) → OkP (Dc sf1 sf2 toks n deep L p 0 t o b) (Sum.elim (fun s : List Aa × Int × Int => TG toks a ⟨s.1,s.2.1,s.2.2⟩ ∧ cond (s.2.2 == 0) (1 + ((toks.length : Int) - s.2.1).toNat) 0 < cond ((0 : Int) == 0) (1 + ((toks.length : Int) - p).toNat) 0) (TG toks a)) := fun b hb => by
  unfold Dc
  refine OkP.condB (fun _ => OkP.map (OkP.ret hI)) (fun hf => ?_)
  have hlt := t2 (by rw [hb hf]; omega)
  rw [w64i (n := p + 1) (by omega) (by omega),w64i (n := n + 1) (by omega) (by omega)]
  refine OkP.bind (h1 (by omega) (p + 1) (by omega) (by omega)) fun y _ hy => OkP.condNE (fun hye => OkP.map (OkP.ret ⟨hy.at0,hy.len,fun h => absurd h hye⟩)) (fun hye => ?_)
  obtain ⟨y1,y2,y3,y4⟩ := hy.ok hye
  have new : TG toks a ⟨([(⟨o,bE,0,2,t.At⟩ : Aa)] ++ L) ++ y.L,y.At,0⟩ := by
   refine ⟨hy.at0,?_,fun _ => ⟨by show a < y.At; omega,y2,?_,NI.app (NI.app (NI.one (by show (bE).size ≤ 1000; decide) (by show (-10 : Int) ≤ 2; omega) (by show (2 : Int) ≤ 1000000; omega)) i4) y4⟩⟩
   · show (([_] ++ L) ++ y.L).length ≤ 2000
     simp; omega
   · show ((([_] ++ L) ++ y.L).length : Int) + 1 ≤ 2 * (y.At - a)
     simp; omega
  refine OkP.grd (by simp; omega) (OkP.grd (by simp; omega) (OkP.condE (fun _ => OkP.map (OkP.ret new)) (fun _ => OkP.ret ⟨new,?_⟩)))
  show 1 + ((toks.length : Int) - y.At).toNat < 1 + ((toks.length : Int) - p).toNat
  omega
 refine OkP.condNE (fun _ => j1 true (by simp)) (fun h4 => OkP.condE (fun _ => j1 true (by simp)) (fun _ => OkP.bind (Ry o) fun z _ _ => j1 _ fun _ => h4))
theorem N5 : ∀ (f : Nat),(∀ (a n deep : Int),0 ≤ a → a ≤ 2000 → 1 ≤ n → n ≤ 6 → 0 ≤ deep → deep ≤ 24 → ((24 - deep) * 8 + (7 - n)).toNat < f → OkP ((A2 f).1 toks a n deep) (TG toks a)) ∧ (∀ (a deep : Int),0 ≤ a → a ≤ 2000 → 0 ≤ deep → deep ≤ 24 → ((24 - deep) * 8).toNat < f → OkP ((A2 f).2 toks a deep) (TG toks a))
 | 0 => ⟨fun _ _ _ _ _ _ _ _ _ h => by omega,fun _ _ _ _ _ _ h => by omega⟩
 | f + 1 => by
   obtain ⟨i1,i2⟩ := N5 f
   have hl := tk.len
   refine ⟨fun a n deep a0 a1 n1 n6 d0 d1 h => ?_,fun a deep a0 a1 d0 d1 h => ?_⟩
   · exact Tf tk _ _ a n deep a0 a1 n1 n6 (fun hn b b0 b1 => i1 b (n + 1) deep (by omega) b1 (by omega) (by omega) d0 d1 (by omega)) (fun hn => i2 a deep a0 a1 d0 d1 (by omega))
   · exact S7 tk _ _ a deep a0 a1 d0 d1 (fun hd hlt => i1 (a + 1) 1 (deep + 1) (by omega) (by omega) (by omega) (by omega) (by omega) (by omega) (by omega)) (fun hd hlt => i2 (a + 1) (deep + 1) (by omega) (by omega) (by omega) (by omega) (by omega))
theorem MR (a : Int) (a0 : 0 ≤ a) (a1 : a ≤ 2000) : OkP (Fg toks a) (TG toks a) := by
 unfold Fg
 rw [dcf (by omega)]
 exact OkP.bind ((N5 tk 4000).1 a 1 0 a0 a1 (by omega) (by omega) (by omega) (by omega) (by omega)) fun g _ hg => OkP.ret hg
end
end Go.Ab
end
section
namespace Go.Ab
set_option linter.unusedVariables false
abbrev Cu := Ad
structure CI (toks : List Af) (a s : Int) (X : Nat) (c : Cu) : Prop where
 a0 : 0 ≤ a
 at0 : 0 ≤ c.at_
 len : c.l.length ≤ X
 ok : c.e = 0 → a ≤ c.at_ ∧ c.at_ ≤ toks.length ∧ (c.l.length : Int) + s ≤ 2 * (c.at_ - a) ∧ NI c.l ∧ 0 ≤ c.n ∧ c.n ≤ c.at_ - a
theorem CI.mono {toks : List Af} {a s s' : Int} {X X' : Nat} {c : Cu} (h : CI toks a s X c) (hs : s' ≤ s) (hX : X ≤ X') : CI toks a s' X' c :=
 ⟨h.a0,h.at0,by have := h.len; omega,fun he => by obtain ⟨h1,h2,h3,h4⟩ := h.ok he; exact ⟨h1,h2,by omega,h4⟩⟩
theorem CI.err {toks : List Af} {a s : Int} {X : Nat} {l : List Aa} {n p e : Int} (ha : 0 ≤ a) (h0 : 0 ≤ p) (hl : l.length ≤ X) (he : e ≠ 0) : CI toks a s X ⟨l,n,p,e⟩ := ⟨ha,h0,hl,fun h => absurd h he⟩
section
variable {toks : List Af} (tk : TK toks)
theorem IU (a : Int) (h0 : 0 ≤ a) (h1 : a ≤ toks.length) (X : Nat) : OkP (Bs a) (fun c => CI toks a 0 X c ∧ c.e = 0 ∧ c.at_ = a) :=
 OkP.ret ⟨⟨h0,h0,by show 0 ≤ X; omega,fun _ => ⟨by show a ≤ a; omega,h1,by show (0 : Int) + 0 ≤ 2 * (a - a); omega,NI.nil,by show (0 : Int) ≤ 0; omega,by show (0 : Int) ≤ a - a; omega⟩⟩,rfl,rfl⟩
include tk
theorem JE (i : Int) (h0 : 0 ≤ i) (w : ByteArray) : OkP (AM toks i w) (fun b => b = true → i < toks.length) := by
 unfold AM
 refine OkP.bind (Jp tk i h0) fun t _ ⟨_,t2⟩ => OkP.condE (fun h => OkP.ret fun _ => t2 (by omega)) (fun _ => OkP.condE (fun h => OkP.ret fun _ => t2 (by omega)) (fun _ => OkP.ret fun h => by cases h))
theorem eat_ok {a s : Int} {X : Nat} {c : Cu} (h : CI toks a s X c) (w : ByteArray) : OkP (Ai c toks w) (CI toks a (s + 2) X) := by
 have hl := tk.len
 unfold Ai
 have j1 : ∀ e : Int,(e = 0 → c.e = 0 ∧ c.at_ < toks.length) → OkP (CL c e) (CI toks a (s + 2) X) := fun e he => by
  unfold CL
  refine OkP.condE (fun h0 => ?_) (fun h0 => OkP.ret (CI.err h.a0 h.at0 h.len h0))
  obtain ⟨he1,he2⟩ := he h0
  obtain ⟨h1,h2,h3,h4,h5,h6⟩ := h.ok he1
  have := h.at0
  rw [w64i (by omega) (by omega)]
  exact OkP.ret ⟨h.a0,by show 0 ≤ c.at_ + 1; omega,h.len,fun _ => ⟨by show a ≤ c.at_ + 1; omega,by show c.at_ + 1 ≤ (toks.length : Int); omega,by show (c.l.length : Int) + (s + 2) ≤ 2 * (c.at_ + 1 - a); omega,h4,h5,by show c.n ≤ c.at_ + 1 - a; omega⟩⟩
 have j3 : ∀ b : Bool,(b = false → c.e = 0 → c.at_ < toks.length) → OkP (B3 c b) (CI toks a (s + 2) X) := fun b hb => by
  unfold B3
  exact OkP.condB (fun _ => j1 11 (by omega)) (fun hf => j1 _ fun h0 => ⟨h0,hb hf h0⟩)
 refine OkP.condE (fun h0 => OkP.bind (JE tk c.at_ h.at0 w) fun b _ hb => j3 _ fun hf _ => hb (by cases b <;> first | rfl | cases hf)) (fun h0 => j3 false fun _ h => absurd h h0)
theorem J4 {a s : Int} {X : Nat} {c : Cu} (h : CI toks a s X c) : OkP (Bf c toks) (fun r => CI toks a (s + 2) X r.1 ∧ r.2.size ≤ 1000) := by
 have hl := tk.len
 unfold Bf
 refine OkP.bind (Jp tk c.at_ h.at0) fun t _ ⟨t1,t2⟩ => ?_
 have j1 : ∀ e : Int,(e = 0 → c.e = 0 ∧ c.at_ < toks.length) → OkP (Dk c t e) (fun r => CI toks a (s + 2) X r.1 ∧ r.2.size ≤ 1000) := fun e he => by
  unfold Dk
  refine OkP.condNE (fun h0 => OkP.ret ⟨CI.err h.a0 h.at0 h.len h0,by show (bE).size ≤ 1000; decide⟩) (fun h0 => ?_)
  obtain ⟨he1,he2⟩ := he h0
  obtain ⟨h1,h2,h3,h4,h5,h6⟩ := h.ok he1
  have := h.at0
  rw [w64i (by omega) (by omega)]
  exact OkP.ret ⟨⟨h.a0,by show 0 ≤ c.at_ + 1; omega,h.len,fun _ => ⟨by show a ≤ c.at_ + 1; omega,by show c.at_ + 1 ≤ (toks.length : Int); omega,by show (c.l.length : Int) + (s + 2) ≤ 2 * (c.at_ + 1 - a); omega,h4,h5,by show c.n ≤ c.at_ + 1 - a; omega⟩⟩,t1⟩
 have j2 : ∀ b : Bool,(b = false → c.e = 0 → t.Kind = 1) → OkP (Dj c t b) (fun r => CI toks a (s + 2) X r.1 ∧ r.2.size ≤ 1000) := fun b hb => by
  unfold Dj
  exact OkP.condB (fun _ => j1 11 (by omega)) (fun hf => j1 _ fun h0 => ⟨h0,t2 (by rw [hb hf h0]; omega)⟩)
 exact OkP.condE (fun h0 => j2 _ fun hf _ => by simpa using hf) (fun h0 => j2 false fun _ h => absurd h h0)
theorem Sz {a s : Int} {X : Nat} {c : Cu} (h : CI toks a s X c) : OkP (Fp c toks) (fun r => CI toks a (s + 2) X r.1) := by
 have hl := tk.len
 unfold Fp
 refine OkP.bind (Jp tk c.at_ h.at0) fun t _ ⟨t1,t2⟩ => ?_
 have j2 : ∀ e : Int,(e = 0 → c.e = 0 ∧ c.at_ < toks.length) → OkP (Dh c t e) (fun r => CI toks a (s + 2) X r.1) := fun e he => by
  unfold Dh
  refine OkP.condNE (fun h0 => OkP.ret (CI.err h.a0 h.at0 h.len h0)) (fun h0 => ?_)
  obtain ⟨he1,he2⟩ := he h0
  obtain ⟨h1,h2,h3,h4,h5,h6⟩ := h.ok he1
  have := h.at0
  rw [w64i (by omega) (by omega)]
  exact OkP.ret ⟨h.a0,by show 0 ≤ c.at_ + 1; omega,h.len,fun _ => ⟨by show a ≤ c.at_ + 1; omega,by show c.at_ + 1 ≤ (toks.length : Int); omega,by show (c.l.length : Int) + (s + 2) ≤ 2 * (c.at_ + 1 - a); omega,h4,h5,by show c.n ≤ c.at_ + 1 - a; omega⟩⟩
 have j3 : ∀ (e : Int) (b : Bool),(e = 0 → c.e = 0 ∧ c.at_ < toks.length) → OkP (Cs c t e b) (fun r => CI toks a (s + 2) X r.1) := fun e b he => by
  unfold Cs
  exact OkP.condB (fun _ => j2 6 (by omega)) (fun _ => j2 e he)
 have j1 : ∀ e : Int,(e = 0 → c.e = 0 ∧ c.at_ < toks.length) → OkP (Di c t e) (fun r => CI toks a (s + 2) X r.1) := fun e he => by
  unfold Di
  exact OkP.condB (fun _ => OkP.condB (fun _ => j3 e _ he) (fun _ => j3 e _ he)) (fun _ => j3 e _ he)
 have j4 : ∀ b : Bool,(b = false → c.e = 0 → t.Kind = 2) → OkP (Dg c t b) (fun r => CI toks a (s + 2) X r.1) := fun b hb => by
  unfold Dg
  exact OkP.condB (fun _ => j1 11 (by omega)) (fun hf => j1 _ fun h0 => ⟨h0,t2 (by rw [hb hf h0]; omega)⟩)
 exact OkP.condE (fun h0 => j4 _ fun hf _ => by simpa using hf) (fun h0 => j4 false fun _ h => absurd h h0)
theorem M7 {a s : Int} {X : Nat} {c : Cu} (h : CI toks a (s + 1) X c) (hs : 0 ≤ s) (hX : X ≤ 1000000) (x : Aa) (hx : x.Name.size ≤ 1000) : OkP (Av c x) (CI toks a s (X + 1)) := by
 have hl := tk.len
 have hle := h.len
 unfold Av
 refine OkP.grd (by simp; omega) (OkP.ret ⟨h.a0,h.at0,by show ([_] ++ c.l).length ≤ X + 1; simp; omega,fun he => ?_⟩)
 obtain ⟨h1,h2,h3,h4,h5,h6⟩ := h.ok he
 refine ⟨h1,h2,?_,NI.app (NI.one hx (by show -10 ≤ c.n; omega) (by show c.n ≤ 1000000; have := h.at0; have := h.a0; omega)) h4,by show (0 : Int) ≤ 1; omega,by show 1 ≤ c.at_ - a; omega⟩
 show (([_] ++ c.l).length : Int) + s ≤ 2 * (c.at_ - a)
 simp; omega
theorem Tz {a s : Int} {X Y : Nat} {c d : Cu} (h : CI toks a s X c) (hs : 0 ≤ s) (hd : c.e = 0 → CI toks c.at_ 1 Y d) (hXY : 1700 + Y ≤ X) (hX : X ≤ 2000000) : OkP (AR c d) (fun r => CI toks a (s + 1) X r ∨ (CI toks a s X r ∧ r.e ≠ 0)) := by
 have hl := tk.len
 have hle := h.len
 unfold AR
 refine OkP.condNE (fun h0 => OkP.ret (.inr ⟨h,h0⟩)) (fun h0 => ?_)
 obtain ⟨h1,h2,h3,h4,h5,h6⟩ := h.ok h0
 have hdd := hd h0
 have hdl := hdd.len
 have hat := h.at0
 have ha0 := h.a0
 refine OkP.grd (by simp; omega) (OkP.grd (by simp; omega) (OkP.ret (.inl ⟨h.a0,hdd.at0,?_,fun he => ?_⟩)))
 · show ([] ++ c.l ++ d.l).length ≤ X
   simp; omega
 · obtain ⟨d1,d2,d3,d4,d5,d6⟩ := hdd.ok he
   refine ⟨by show a ≤ d.at_; omega,d2,?_,NI.app (by simpa using h4) d4,?_,?_⟩
   · show (([] ++ c.l ++ d.l).length : Int) + (s + 1) ≤ 2 * (d.at_ - a)
     simp; omega
   · show 0 ≤ w64 (c.n + 1)
     rw [w64i (by omega) (by omega)]; omega
   · show w64 (c.n + 1) ≤ d.at_ - a
     rw [w64i (by omega) (by omega)]; omega
theorem Kc {a s : Int} {X Y : Nat} {c d : Cu} (h : CI toks a s X c) (hs : 0 ≤ s) (hd : c.e = 0 → CI toks c.at_ 1 Y d) (hXY : 1700 + Y ≤ X) (hX : X ≤ 2000000) : OkP (AR c d) (CI toks a s X) :=
 (Tz tk h hs hd hXY hX).mono fun r _ hr => hr.elim (fun h => h.mono (by omega) (by omega)) (fun h => h.1)
theorem HX {a s : Int} {X : Nat} {c : Cu} (h : CI toks a s X c) (hs : 0 ≤ s) (hX : 4000 ≤ X) (hX2 : X ≤ 1000000) : OkP (AC c toks) (CI toks a s X) := by
 have hl := tk.len
 unfold AC
 refine OkP.condNE (fun h0 => OkP.ret h) (fun h0 => ?_)
 obtain ⟨h1,h2,h3,h4,h5,h6⟩ := h.ok h0
 refine OkP.bind (MR tk c.at_ h.at0 (by omega)) fun g _ hg => OkP.bind (Kc tk (Y := 2000) h hs (fun _ => ⟨h.at0,hg.at0,hg.len,fun he => ?_⟩) (by omega) (by omega)) fun y _ hy => OkP.ret hy
 obtain ⟨g1,g2,g3,g4⟩ := hg.ok he
 exact ⟨by show c.at_ ≤ g.At; omega,g2,g3,g4,by show (0 : Int) ≤ 0; omega,by show 0 ≤ g.At - c.at_; omega⟩
theorem S4 (a : Int) (h0 : 0 ≤ a) (h1 : a ≤ toks.length) : OkP (Ha toks a) (CI toks a 1 5000) := by
 unfold Ha
 refine OkP.bind (IU a h0 h1 4000) fun c _ ⟨hc,_,_⟩ => OkP.bind (J4 tk hc) fun r _ ⟨hr,hn⟩ => ?_
 have j1 : ∀ c : Cu,CI toks a 2 4000 c → OkP (DW toks a r c.l c.n c.at_ c.e) (CI toks a 1 5000) := fun c hc => by
  unfold DW
  exact OkP.bind (Jp tk a h0) fun t _ _ => OkP.bind (M7 tk (s := 1) hc (by omega) (by omega) _ hn) fun y _ hy => OkP.ret (hy.mono (by omega) (by omega))
 have hr2 : CI toks a 2 4000 r.1 := hr.mono (by omega) (by omega)
 have j2 : ∀ b,OkP (EY toks a r b) (CI toks a 1 5000) := fun b => by
  unfold EY
  refine OkP.condB (fun _ => OkP.bind (eat_ok tk hr2 _) fun y _ hy => OkP.bind (HX tk hy (by omega) (by omega) (by omega)) fun z _ hz => OkP.bind (eat_ok tk hz _) fun w _ hw => j1 w (hw.mono (by omega) (by omega))) (fun _ => j1 r.1 hr2)
 exact OkP.condB (fun _ => OkP.bind (JE tk _ hr.at0 _) fun b _ _ => j2 b) (fun _ => j2 false)
theorem QZ {a s : Int} {X : Nat} {c : Cu} (h : CI toks a s X c) (hs : 0 ≤ s) (hX : 7000 ≤ X) (hX2 : X ≤ 1000000) (k1 k2 : Int) : OkP (Ef c toks k1 k2) (fun r => CI toks a s X r.1 ∧ r.2.2.size ≤ 1000) := by
 unfold Ef
 refine OkP.condNE (fun h0 => OkP.ret ⟨h,by show (bE).size ≤ 1000; decide⟩) (fun h0 => ?_)
 obtain ⟨h1,h2,h3,h4,h5,h6⟩ := h.ok h0
 refine OkP.bind (S4 tk c.at_ h.at0 h2) fun d _ hd => OkP.bind (Kc tk h hs (fun _ => hd) (by omega) (by omega)) fun y _ hy => ?_
 have j1 : ∀ b,OkP (Dl toks k1 k2 y b) (fun r => CI toks a s X r.1 ∧ r.2.2.size ≤ 1000) := fun b => by
  unfold Dl
  refine OkP.condB (fun _ => OkP.bind (eat_ok tk hy _) fun z _ hz => OkP.bind (HX tk hz (by omega) (by omega) hX2) fun w _ hw => OkP.ret ⟨hw.mono (by omega) (by omega),by show (bE).size ≤ 1000; decide⟩) (fun _ => OkP.bind (eat_ok tk hy _) fun z _ hz => OkP.bind (J4 tk hz) fun w _ ⟨hw,hn⟩ => OkP.ret ⟨hw.mono (by omega) (by omega),hn⟩)
 exact OkP.condB (fun _ => OkP.bind (JE tk _ hy.at0 _) fun b _ _ => j1 b) (fun _ => j1 false)
omit tk in
theorem Sf {c y : Cu} {w : ByteArray} (h : Ai c toks w = some y) (hy : y.e = 0) : c.e = 0 ∧ y.at_ = w64 (c.at_ + 1) := by
 unfold Ai at h
 have j3 : ∀ b : Bool,B3 c b = some y → c.e = 0 ∧ y.at_ = w64 (c.at_ + 1) := fun b h => by
  cases b with
  | true =>
    have : some (⟨c.l,c.n,c.at_,11⟩ : Cu) = some y := h
    cases this; cases hy
  | false =>
    unfold B3 CL EW at h
    by_cases h0 : c.e = 0
    · rw [beqt h0] at h
      cases h
      exact ⟨h0,rfl⟩
    · rw [beqf h0] at h
      cases h
      exact absurd hy h0
 cases hb : (c.e == 0) with
 | true =>
   rw [hb] at h
   obtain ⟨b,_,h⟩ := bs h
   exact j3 _ h
 | false =>
   rw [hb] at h
   exact j3 false h
omit tk in
theorem Sj {c d r : Cu} (h : AR c d = some r) (hr : r.e = 0) : c.e = 0 ∧ d.e = 0 ∧ r.at_ = d.at_ := by
 unfold AR at h
 by_cases h0 : c.e = 0
 · rw [show (c.e != 0) = false by simpa using h0] at h
   obtain ⟨_,h⟩ := gs h
   obtain ⟨_,h⟩ := gs h
   cases h
   exact ⟨h0,hr,rfl⟩
 · rw [show (c.e != 0) = true by simpa using h0] at h
   cases h
   exact absurd hr h0
omit tk in
theorem term_mv {c z : Cu} (h : AC c toks = some z) (hz : z.e = 0) : c.e = 0 ∧ ∃ g,Fg toks c.at_ = some g ∧ z.at_ = g.At ∧ g.E = 0 := by
 unfold AC at h
 by_cases h0 : c.e = 0
 · rw [show (c.e != 0) = false by simpa using h0] at h
   obtain ⟨g,eg,h⟩ := bs h
   obtain ⟨y,ey,h⟩ := bs h
   cases h
   obtain ⟨_,a,b⟩ := Sj ey hz
   exact ⟨h0,g,eg,b,a⟩
 · rw [show (c.e != 0) = true by simpa using h0] at h
   cases h
   exact absurd hz h0
theorem args_ok {a s : Int} {X : Nat} {c : Cu} (h : CI toks a s X c) (hs : 0 ≤ s) (hX : 7000 ≤ X) (hX2 : X ≤ 1000000) : OkP (Fr c toks) (CI toks a s X) := by
 have hl := tk.len
 have j1 : ∀ c : Cu,CI toks a s X c → OkP (Ct toks c.l c.n c.at_ c.e) (CI toks a s X) := fun c hc => by
  unfold Ct
  exact OkP.bind (eat_ok tk hc _) fun y _ hy => OkP.ret (hy.mono (by omega) (by omega))
 have lp : ∀ c : Cu,CI toks a s X c → OkP (Loop (fun t : ((List Aa) × Int × Int × Int) => Dm toks t.1 t.2.1 t.2.2.1 t.2.2.2) (c.l,c.n,c.at_,c.e)) (CI toks a s X) := fun c hc => by
  refine Fm (S := List Aa × Int × Int × Int) (fun t => CI toks a s X ⟨t.1,t.2.1,t.2.2.1,t.2.2.2⟩) (fun t => cond (t.2.2.2 == 0) (1 + ((toks.length : Int) - t.2.2.1).toNat) 0) ?_ _ hc
  rintro ⟨l,n,p,e⟩ hI
  replace hI : CI toks a s X ⟨l,n,p,e⟩ := hI
  show OkP (Dm toks l n p e) _
  have j3 : ∀ b : Bool,(b = true → e = 0 ∧ p < toks.length) → OkP (Dn toks l n p e b) (Sum.elim (fun t : List Aa × Int × Int × Int => CI toks a s X ⟨t.1,t.2.1,t.2.2.1,t.2.2.2⟩ ∧ cond (t.2.2.2 == 0) (1 + ((toks.length : Int) - t.2.2.1).toNat) 0 < cond (e == 0) (1 + ((toks.length : Int) - p).toNat) 0) (CI toks a s X)) := fun b hb => by
   unfold Dn
   refine OkP.condB (fun hbt => ?_) (fun _ => OkP.map (j1 ⟨l,n,p,e⟩ hI))
   obtain ⟨rfl,hp⟩ := hb hbt
   refine OkP.bind (eat_ok tk hI _) fun y ey hy => OkP.bind (HX tk hy (by omega) (by omega) hX2) fun z ez hz => OkP.ret ⟨hz.mono (by omega) (by omega),?_⟩
   show cond (z.e == 0) (1 + ((toks.length : Int) - z.at_).toNat) 0 < 1 + ((toks.length : Int) - p).toNat
   have e1 : z.e = 0 → p + 1 ≤ z.at_ := by
    intro hz0
    obtain ⟨y0,g,eg,gat,ge⟩ := term_mv ez hz0
    obtain ⟨_,yat⟩ := Sf ey y0
    replace yat : y.at_ = w64 (p + 1) := yat
    have hp0 := hI.at0
    replace hp0 : 0 ≤ p := hp0
    rw [w64i (by omega) (by omega)] at yat
    have := ((MR tk y.at_ hy.at0 (by omega)).get eg).ok ge
    omega
   by_cases hz0 : z.e = 0
   · rw [beqt hz0]
     have := e1 hz0
     show 1 + ((toks.length : Int) - z.at_).toNat < _
     have := (hz.ok hz0).2.1
     omega
   · rw [beqf hz0]; show 0 < _; omega
  unfold Dm
  refine OkP.condE (fun h0 => OkP.bind (JE tk p hI.at0 _) fun b _ hb => j3 b fun hbt => ⟨h0,hb hbt⟩) (fun _ => j3 false (by simp))
 have j2 : ∀ (y : Cu) (b : Bool),CI toks a s X y → OkP (Do toks y b) (CI toks a s X) := fun y b hy => by
  unfold Do
  exact OkP.condB (fun _ => OkP.bind (HX tk hy hs (by omega) hX2) fun z _ hz => lp z hz) (fun _ => j1 y hy)
 unfold Fr
 refine OkP.bind (eat_ok tk h _) fun y _ hy => ?_
 have hy' : CI toks a s X y := hy.mono (by omega) (by omega)
 exact OkP.condB (fun _ => OkP.bind (JE tk _ hy.at0 _) fun b _ _ => j2 y _ hy') (fun _ => j2 y false hy')
end
end Go.Ab
end
section
namespace Go.Ab
set_option linter.unusedVariables false
set_option maxRecDepth 100000
theorem LC : (bE).size ≤ 1000 := by decide
abbrev ms (toks : List Af) (p e : Int) : Nat := cond (e == 0) (1 + ((toks.length : Int) - p).toNat) 0
theorem CI.more {toks : List Af} {c d r : Cu} {a s : Int} {X Y : Nat} (h0 : c.e = 0) (hd : CI toks c.at_ 1 Y d) (h : AR c d = some r) (hr : CI toks a s X r) : ms toks r.at_ r.e < ms toks c.at_ c.e := by
 unfold ms
 rw [beqt h0]
 by_cases he : r.e = 0
 · obtain ⟨_,hde,hat⟩ := Sj h he
   obtain ⟨d1,d2,d3,_⟩ := hd.ok hde
   rw [beqt he,hat]
   show 1 + ((toks.length : Int) - d.at_).toNat < 1 + ((toks.length : Int) - c.at_).toNat
   omega
 · rw [beqf he]
   show 0 < 1 + _
   omega
abbrev In := Cu → List Af → Int → Option Cu
section
variable {toks : List Af} (tk : TK toks)
include tk
theorem LL {a s : Int} {X Y : Nat} {c : Cu} (h : CI toks a s X c) (hs : 2 ≤ s) (hXY : X + 1 ≤ Y) (hX : X ≤ 1000000) (x : Aa) (hx : x.Name.size ≤ 1000) : OkP ((Av c x).bind fun y => some y) (CI toks a 1 Y) :=
 OkP.bind (M7 tk (s := 1) (h.mono (by omega) (Nat.le_refl _)) (by omega) hX x hx) fun y _ hy => OkP.ret (hy.mono (by omega) hXY)
theorem S1 (a : Int) (h0 : 0 ≤ a) (h1 : a ≤ toks.length) (x : Aa) : OkP (G9 toks a x) (CI toks a 1 7001) := by
 have j1 : ∀ (y4 : Cu × ByteArray) (o : Int) (c : Cu),y4.2.size ≤ 1000 → CI toks a 2 7000 c → OkP (DV toks x y4 o c.l c.n c.at_ c.e) (CI toks a 1 7001) := fun y4 o c hn hc => by
  unfold DV
  exact OkP.bind (eat_ok tk hc _) fun y _ hy => LL tk hy (by omega) (by omega) (by omega) _ hn
 unfold G9
 refine OkP.bind (IU a h0 h1 7000) fun c _ ⟨hc,_,_⟩ => OkP.bind (J4 tk hc) fun r _ ⟨hr,hn⟩ => OkP.bind (eat_ok tk hr _) fun y _ hy => ?_
 have j2 : ∀ b,OkP (EX toks x r y b) (CI toks a 1 7001) := fun b => by
  unfold EX
  refine OkP.condB (fun _ => OkP.bind (eat_ok tk hy _) fun y1 _ h1 => OkP.bind (eat_ok tk h1 _) fun y2 _ h2 => OkP.bind (HX tk h2 (by omega) (by omega) (by omega)) fun y3 _ h3 => OkP.bind (eat_ok tk h3 _) fun y4 _ h4 => j1 r 20 y4 hn (h4.mono (by omega) (by omega))) (fun _ => OkP.bind (HX tk hy (by omega) (by omega) (by omega)) fun y3 _ h3 => j1 r 19 y3 hn (h3.mono (by omega) (by omega)))
 exact OkP.condB (fun _ => OkP.bind (JE tk _ hy.at0 _) fun b _ _ => j2 b) (fun _ => j2 false)
def InOk (sf1 : In) (toks : List Af) (deep : Int) (K : Nat) : Prop := ∀ (c : Cu) (a s : Int) (X : Nat),CI toks a s X c → 0 ≤ s → K ≤ X → X ≤ 1000000 → OkP (sf1 c toks (w64 (deep + 1))) (CI toks a s X)
theorem Od (sf1 : In) (deep : Int) (K : Nat) (hin : InOk sf1 toks deep K) (hK : 12000 ≤ K) (hK2 : K ≤ 900000) (a : Int) (h0 : 0 ≤ a) (h1 : a ≤ toks.length) : OkP (Eg sf1 toks a deep) (CI toks a 1 (K + 1)) := by
 unfold Eg
 refine OkP.bind (Jp tk a h0) fun t _ _ => OkP.bind (JE tk a h0 _) fun b _ _ => OkP.condB (fun _ => OkP.bind (IU a h0 h1 K) fun c _ ⟨hc,_,_⟩ => OkP.bind (eat_ok tk hc _) fun y _ hy => OkP.bind (hin y a _ K hy (by omega) (by omega) (by omega)) fun z _ hz => LL tk hz (by omega) (by omega) (by omega) _ LC) (fun _ => OkP.bind (IU a h0 h1 K) fun c _ ⟨hc,_,_⟩ => OkP.bind (eat_ok tk hc _) fun y _ hy => ?_)
 replace hy : CI toks a 2 K y := hy.mono (by omega) (by omega)
 have j2 : ∀ (x o : Int) (m : ByteArray) (c : Cu),m.size ≤ 1000 → CI toks a 2 K c → OkP (C0 sf1 toks deep t x o m c.l c.n c.at_ c.e) (CI toks a 1 (K + 1)) := fun x o m c hm hc => by
  unfold C0
  exact OkP.bind (hin _ a _ K hc (by omega) (by omega) (by omega)) fun z _ hz => LL tk hz (by omega) (by omega) (by omega) _ hm
 have j3 : ∀ (x : Int) (c : Cu) (b : Bool),CI toks a 2 K c → OkP (DY sf1 toks deep t x c.l c.n c.at_ c.e b) (CI toks a 1 (K + 1)) := fun x c b hc => by
  unfold DY
  refine OkP.condB (fun _ => OkP.bind (eat_ok tk hc _) fun y _ hy => OkP.bind (HX tk hy (by omega) (by omega) (by omega)) fun z _ hz => j2 x 36 bE z LC (hz.mono (by omega) (by omega))) (fun _ => OkP.bind (QZ tk hc (by omega) (by omega) (by omega) 35 34) fun r _ ⟨hr,hn⟩ => j2 x r.2.1 r.2.2 r.1 hn hr)
 have j1 : ∀ (x : Int) (c : Cu),CI toks a 2 K c → OkP (C1 sf1 toks deep t x c.l c.n c.at_ c.e) (CI toks a 1 (K + 1)) := fun x c hc => by
  unfold C1
  exact OkP.condB (fun _ => OkP.bind (JE tk _ hc.at0 _) fun b _ _ => j3 x c b hc) (fun _ => j3 x c false hc)
 have j4 : ∀ b,OkP (DX sf1 toks deep t y b) (CI toks a 1 (K + 1)) := fun b => by
  unfold DX
  exact OkP.condB (fun _ => OkP.bind (eat_ok tk hy _) fun y1 _ h1 => OkP.bind (HX tk h1 (by omega) (by omega) (by omega)) fun y2 _ h2 => OkP.bind (eat_ok tk h2 _) fun y3 _ h3 => j1 1 y3 (h3.mono (by omega) (by omega))) (fun _ => j1 0 y hy)
 exact OkP.condB (fun _ => OkP.bind (JE tk _ hy.at0 _) fun b _ _ => j4 b) (fun _ => j4 false)
theorem Sv (sf1 : In) (deep : Int) (K : Nat) (hin : InOk sf1 toks deep K) (hK : 12000 ≤ K) (hK2 : K ≤ 900000) (a : Int) (h0 : 0 ≤ a) (h1 : a ≤ toks.length) : OkP (F7 sf1 toks a deep) (CI toks a 1 (K + 1702)) := by
 unfold F7
 refine OkP.bind (Jp tk a h0) fun t _ ⟨t1,t2⟩ => OkP.bind (IU a h0 h1 (K + 1701)) fun c _ ⟨hc,_,_⟩ => ?_
 have end_ : ∀ {s : Int} {c : Cu} (x : Aa),CI toks a s (K + 1701) c → 2 ≤ s → x.Name.size ≤ 1000 → OkP ((Av c x).bind fun y => some y) (CI toks a 1 (K + 1702)) := fun x h hs hx => LL tk h hs (by omega) (by omega) x hx
 have eat : ∀ {s : Int} {c : Cu} {w : ByteArray} {f : Cu → Option Cu},CI toks a s (K + 1701) c → (∀ y,CI toks a (s + 2) (K + 1701) y → OkP (f y) (CI toks a 1 (K + 1702))) → OkP ((Ai c toks w).bind f) (CI toks a 1 (K + 1702)) := fun h k => OkP.bind (eat_ok tk h _) fun y _ hy => k y hy
 have trm : ∀ {s : Int} {c : Cu} {f : Cu → Option Cu},CI toks a s (K + 1701) c → 0 ≤ s → (∀ y,CI toks a s (K + 1701) y → OkP (f y) (CI toks a 1 (K + 1702))) → OkP ((AC c toks).bind f) (CI toks a 1 (K + 1702)) := fun h hs k => OkP.bind (HX tk h hs (by omega) (by omega)) fun y _ hy => k y hy
 have blk : ∀ {s : Int} {c : Cu} {f : Cu → Option Cu},CI toks a s (K + 1701) c → 0 ≤ s → (∀ y,CI toks a s (K + 1701) y → OkP (f y) (CI toks a 1 (K + 1702))) → OkP ((sf1 c toks (w64 (deep + 1))).bind f) (CI toks a 1 (K + 1702)) := fun h hs k => OkP.bind (hin _ a _ _ h hs (by omega) (by omega)) fun y _ hy => k y hy
 have err : OkP (some (⟨c.l,c.n,c.at_,11⟩ : Cu)) (CI toks a 1 (K + 1702)) := OkP.ret (CI.err h0 hc.at0 (by have := hc.len; omega) (by omega))
 have j2 : ∀ (s : Int) (c : Cu),CI toks a s (K + 1701) c → 2 ≤ s → OkP (Dz sf1 t c.l c.n c.at_ c.e) (CI toks a 1 (K + 1702)) := fun s c hc hs => by
  unfold Dz
  exact end_ _ hc hs LC
 have j3 : ∀ (s : Int) (c : Cu) (b : Bool),CI toks a s (K + 1701) c → 2 ≤ s → OkP (EG sf1 toks deep t c b) (CI toks a 1 (K + 1702)) := fun s c b hc hs => by
  unfold EG
  exact OkP.condB (fun _ => eat hc fun y hy => blk hy (by omega) fun z hz => j2 _ z hz (by omega)) (fun _ => j2 s c hc hs)
 have j4 : ∀ (c : Cu),CI toks a 2 (K + 1701) c → OkP (Dy sf1 toks deep t c.l c.n c.at_ c.e) (CI toks a 1 (K + 1702)) := fun c hc => by
  unfold Dy
  refine Fm (S := List Aa × Int × Int × Int) (fun t => CI toks a 2 (K + 1701) ⟨t.1,t.2.1,t.2.2.1,t.2.2.2⟩) (fun t => ms toks t.2.2.1 t.2.2.2) ?_ _ hc
  rintro ⟨l,n,p,e⟩ hI
  replace hI : CI toks a 2 (K + 1701) ⟨l,n,p,e⟩ := hI
  show OkP (FN sf1 toks deep t l n p e) _
  have j5 : ∀ b : Bool,(b = true → e = 0) → OkP (EF sf1 toks deep t l n p e b) (Sum.elim (fun t : List Aa × Int × Int × Int => CI toks a 2 (K + 1701) ⟨t.1,t.2.1,t.2.2.1,t.2.2.2⟩ ∧ ms toks t.2.2.1 t.2.2.2 < ms toks p e) (CI toks a 1 (K + 1702))) := fun b hb => by
   unfold EF
   refine OkP.condB (fun hbt => ?_) (fun _ => OkP.map (eat hI fun y hy => end_ _ hy (by omega) LC))
   have he := hb hbt
   have hp := (hI.ok he).2.1
   refine OkP.bind (Od tk sf1 deep K hin hK hK2 p hI.at0 hp) fun d _ hd => OkP.bind (Kc tk hI (by omega) (fun _ => hd) (by omega) (by omega)) fun r er hr => OkP.ret ⟨hr,?_⟩
   exact CI.more (c := ⟨l,n,p,e⟩) he hd er hr
  unfold FN
  refine OkP.condE (fun he => OkP.bind (JE tk p hI.at0 _) fun b _ _ => j5 _ fun _ => he) (fun _ => j5 false (by simp))
 have j1 : ∀ b,OkP (EH sf1 toks a deep t c b) (CI toks a 1 (K + 1702)) := fun b => by
  unfold EH
  refine OkP.condB (fun _ => OkP.bind (S1 tk a h0 h1 _) fun y _ hy => OkP.ret (hy.mono (by omega) (by omega))) (fun _ => OkP.condB (fun _ => ?_) (fun _ => OkP.condB (fun _ => err) (fun _ => ?_)))
  · exact OkP.bind (QZ tk hc (by omega) (by omega) (by omega) 21 22) fun r _ ⟨hr,hn⟩ => eat hr fun y hy => end_ _ hy (by omega) hn
  refine OkP.condB (fun _ => ?_) (fun _ => ?_)
  ·
   exact eat hc fun y hy => OkP.bind (J4 tk hy) fun r _ ⟨hr,hn⟩ => eat hr fun y hy => trm hy (by omega) fun y hy => eat hy fun y hy => end_ _ hy (by omega) hn
  refine OkP.condB (fun _ => ?_) (fun _ => ?_)
  ·
   exact eat hc fun y hy => OkP.bind (J4 tk hy) fun r _ ⟨hr,hn⟩ => OkP.bind (args_ok tk hr (by omega) (by omega) (by omega)) fun y _ hy => eat hy fun y hy => end_ _ hy (by omega) hn
  refine OkP.condB (fun _ => eat hc fun y hy => trm hy (by omega) fun y hy => eat hy fun y hy => end_ _ hy (by omega) LC) (fun _ => ?_)
  refine OkP.condB (fun _ => eat hc fun y hy => trm hy (by omega) fun y hy => eat hy fun y hy => end_ _ hy (by omega) LC) (fun _ => ?_)
  refine OkP.condB (fun _ => eat hc fun y hy => trm hy (by omega) fun y hy => eat hy fun y hy => end_ _ hy (by omega) LC) (fun _ => ?_)
  refine OkP.condB (fun _ => eat hc fun y hy => eat hy fun y hy => end_ _ hy (by omega) LC) (fun _ => ?_)
  refine OkP.condB (fun _ => eat hc fun y hy => eat hy fun y hy => end_ _ hy (by omega) LC) (fun _ => ?_)
  refine OkP.condB (fun _ => eat hc fun y hy => trm hy (by omega) fun y hy => blk hy (by omega) fun y hy => end_ _ hy (by omega) LC) (fun _ => ?_)
  refine OkP.condB (fun _ => eat hc fun y hy => trm hy (by omega) fun y hy => blk hy (by omega) fun y hy => ?_) (fun _ => ?_)
  · exact OkP.condB (fun _ => OkP.bind (JE tk _ hy.at0 _) fun b _ _ => j3 _ y b hy (by omega)) (fun _ => j3 _ y false hy (by omega))
  refine OkP.condB (fun _ => eat hc fun y hy => eat hy fun y hy => ?_) (fun _ => err)
  replace hy : CI toks a 2 (K + 1701) y := hy.mono (by omega) (by omega)
  refine OkP.condE (fun he => ?_) (fun _ => j4 y hy)
  have hp := (hy.ok he).2.1
  exact OkP.bind (Od tk sf1 deep K hin hK hK2 _ hy.at0 hp) fun d _ hd => OkP.bind (Kc tk hy (by omega) (fun _ => hd) (by omega) (by omega)) fun r er hr => j4 r hr
 exact OkP.condB (fun _ => OkP.bind (JE tk _ (by have := tk.len; rw [w64i (by omega) (by omega)]; omega) _) fun b _ _ => j1 b) (fun _ => j1 false)
theorem RQ (sf1 : In) (deep : Int) (K : Nat) (hin : deep ≤ 24 → InOk sf1 toks deep K) (hK : 12000 ≤ K) (hK2 : K ≤ 900000) (a : Int) (h0 : 0 ≤ a) (h1 : a ≤ toks.length) : OkP (FP sf1 toks a deep) (CI toks a 1 (K + 3403)) := by
 unfold FP
 refine OkP.bind (IU a h0 h1 (K + 3402)) fun c _ ⟨hc,hce,hcat⟩ => ?_
 have j1 : ∀ b : Bool,(b = false → deep ≤ 24 ∨ AM toks a ⟨#[123]⟩ = some false) → OkP (Ei sf1 toks a deep c b) (CI toks a 1 (K + 3403)) := fun b hb => by
  unfold Ei
  refine OkP.condB (fun _ => OkP.ret (CI.err h0 hc.at0 (by have := hc.len; omega) (by omega))) (fun hbf => OkP.bind (eat_ok tk hc _) fun y ey hy => ?_)
  have hye : deep ≤ 24 ∨ y.e ≠ 0 := by
   rcases hb hbf with h | h
   · exact .inl h
   · right
     intro hy0
     unfold Ai at ey
     rw [beqt hce,hcat] at ey
     obtain ⟨z,ez,ey⟩ := bs ey
     rw [h] at ez
     cases ez
     have : some (⟨c.l,c.n,c.at_,11⟩ : Cu) = some y := ey
     cases this
     cases hy0
  replace hy : CI toks a 2 (K + 3402) y := hy.mono (by omega) (by omega)
  refine Fm (S := List Aa × Int × Int × Int) (fun t => CI toks a 2 (K + 3402) ⟨t.1,t.2.1,t.2.2.1,t.2.2.2⟩ ∧ (deep ≤ 24 ∨ t.2.2.2 ≠ 0)) (fun t => ms toks t.2.2.1 t.2.2.2) ?_ _ ⟨hy,hye⟩
  rintro ⟨l,n,p,e⟩ ⟨hI,hde⟩
  replace hI : CI toks a 2 (K + 3402) ⟨l,n,p,e⟩ := hI
  replace hde : deep ≤ 24 ∨ e ≠ 0 := hde
  show OkP (Fs sf1 toks a deep l n p e) _
  have j2 : ∀ b : Bool,(b = true → e = 0) → OkP (Eh sf1 toks a deep l n p e b) (Sum.elim (fun t : List Aa × Int × Int × Int => (CI toks a 2 (K + 3402) ⟨t.1,t.2.1,t.2.2.1,t.2.2.2⟩ ∧ (deep ≤ 24 ∨ t.2.2.2 ≠ 0)) ∧ ms toks t.2.2.1 t.2.2.2 < ms toks p e) (CI toks a 1 (K + 3403))) := fun b hb => by
   unfold Eh
   refine OkP.condB (fun hbt => ?_) (fun _ => OkP.map (OkP.bind (eat_ok tk hI _) fun y _ hy => OkP.bind (Jp tk a h0) fun t _ _ => LL tk hy (by omega) (by omega) (by omega) _ LC))
   have he := hb hbt
   have h24 : deep ≤ 24 := hde.elim id fun h => absurd he h
   have hp := (hI.ok he).2.1
   refine OkP.bind (Sv tk sf1 deep K (hin h24) hK hK2 p hI.at0 hp) fun d _ hd => OkP.bind (Kc tk hI (by omega) (fun _ => hd) (by omega) (by omega)) fun r er hr => OkP.ret ⟨⟨hr,.inl h24⟩,?_⟩
   exact CI.more (c := ⟨l,n,p,e⟩) he hd er hr
  unfold Fs
  refine OkP.condE (fun he => OkP.bind (JE tk p hI.at0 _) fun b _ _ => j2 _ fun _ => he) (fun _ => j2 false (by simp))
 refine OkP.bind (JE tk a h0 _) fun b eb _ => OkP.condB (fun _ => j1 _ fun h => .inl ?_) (fun hbf => j1 false fun _ => .inr (by rw [eb,hbf]))
 have := of_decide_eq_false h
 omega
theorem Tk : ∀ (k n : Nat),k < n → k ≤ 25 → ∀ (deep : Int),deep + k = 25 → ∀ (c : Cu) (a s : Int) (X : Nat),CI toks a s X c → 0 ≤ s → 18000 + 6000 * k ≤ X → X ≤ 1000000 → OkP (CE n c toks deep) (CI toks a s X)
 | _,0,h,_,_,_,_,_,_,_,_,_,_,_ => by omega
 | k,n + 1,h,hk,deep,hd,c,a,s,X,hc,hs,hX,hX2 => by
   have hl := tk.len
   show OkP (Fq (CE n) c toks deep) _
   unfold Fq
   refine OkP.condNE (fun _ => OkP.ret hc) (fun he => ?_)
   have hp := (hc.ok he).2.1
   have hin : deep ≤ 24 → InOk (CE n) toks deep (12000 + 6000 * k) := fun h24 c' a' s' X' h1 h2 h3 h4 => by
    obtain ⟨k',rfl⟩ : ∃ k',k = k' + 1 := ⟨k - 1,by omega⟩
    rw [w64i (by omega) (by omega)]
    exact Tk k' n (by omega) (by omega) (deep + 1) (by omega) c' a' s' X' h1 h2 (by omega) h4
   exact OkP.bind (RQ tk _ deep (12000 + 6000 * k) hin (by omega) (by omega) c.at_ hc.at0 hp) fun d _ hdd => OkP.bind (Kc tk hc hs (fun _ => hdd) (by omega) (by omega)) fun r _ hr => OkP.ret hr
theorem R9 {a s : Int} {X : Nat} {c : Cu} (hc : CI toks a s X c) (hs : 0 ≤ s) (hX : 200000 ≤ X) (hX2 : X ≤ 1000000) : OkP (EZ c toks 1) (CI toks a s X) := by
 unfold EZ
 exact Tk tk 24 4000 (by omega) (by omega) 1 (by omega) c a s X hc hs (by omega) hX2
theorem Pj {a s : Int} {X : Nat} {c : Cu} (hc : CI toks a s X c) (hs : 0 ≤ s) (hX : 4000 ≤ X) (hX2 : X ≤ 1000000) : OkP (CZ c toks) (fun r => CI toks a s X r ∧ (c.e = 0 → ms toks r.at_ r.e < ms toks c.at_ c.e)) := by
 unfold CZ
 refine OkP.condNE (fun h => OkP.ret ⟨hc,fun h' => absurd h' h⟩) (fun he => ?_)
 have hp := (hc.ok he).2.1
 refine OkP.bind (IU c.at_ hc.at0 hp 1000) fun y _ ⟨hy,_,_⟩ => OkP.bind (J4 tk hy) fun r _ ⟨hr,hn⟩ => OkP.bind (Jp tk c.at_ hc.at0) fun t _ _ => OkP.bind (M7 tk (s := 1) (hr.mono (by omega) (Nat.le_refl _)) (by omega) (by omega) _ hn) fun d _ hd => OkP.bind (Kc tk hc hs (fun _ => hd) (by omega) (by omega)) fun r er hr => OkP.ret ⟨hr,fun _ => CI.more he hd er hr⟩
end
end Go.Ab
end
section
namespace Go.Ab
set_option linter.unusedVariables false
section
variable {l : List Aa} (hl : l.length ≤ 3000) (self : PSelf) {a : Nat} (ha : a < l.length) (hs : ∀ (b : Nat) (c : Cls),a + 1 ≤ b → OkP (self l b (cB c)) (PG l [c] b)) {x : Aa} (hx : l[a]? = some x) (hn : x.Name.size ≤ 1000) (hk1 : x.Kids ≤ 1000000)
include hx in
theorem PG.up {c : Cls} {kc : List Cls} (sh : Fd x c kc) {r : Ae} (h : r.Ok = true → True ∧ PG l kc (a + 1) r) : PG l [c] a r := by
 intro hr
 obtain ⟨j,ss,e1,e2⟩ := (h hr).2 hr
 exact ⟨j,[a],e1,Pcs.mk1 hx sh e2⟩
include hx in
theorem PG.leaf {c : Cls} (sh : Fd x c []) : PG l [c] a ⟨((a + 1 : Nat) : Int),true⟩ := fun _ => ⟨a + 1,[a],rfl,Pcs.mk1 hx sh (.nil _)⟩
include hl hs hx in
theorem rowP (cs : List Cls) (w : ByteArray) (hw : w.size = cs.length) (h10 : cs.length ≤ 10) (hxt : ∀ (k : Nat) (h : k < cs.length),w.extract k (k + 1) = cB cs[k]) {c : Cls} (sh : Fd x c cs) : OkP ((AH self l ⟨((a + 1 : Nat) : Int),true⟩ w).bind fun y => some y) (PG l [c] a) := by
 refine OkP.bind (Qt l hl self (a + 1) hs cs w hw h10 hxt _ true (fun _ => rfl)) fun y _ h => OkP.ret (PG.up hx sh fun hr => ⟨trivial,(h hr).2⟩)
include hl ha hs hx hk1 in
theorem allP (d : Cls) {c : Cls} (sh : Fd x c (List.replicate x.Kids.toNat d)) : OkP ((Bh self l ⟨((a + 1 : Nat) : Int),true⟩ (cB d) x.Kids).bind fun y => some y) (PG l [c] a) := by
 refine OkP.bind (Sh l hl self (a + 1) hs d x.Kids hk1 true (by omega)) fun y _ h => OkP.ret (PG.up hx sh fun hr => ⟨trivial,(h hr).2⟩)
include hl hs hx hn in
theorem Sq : OkP (DZ self l x ⟨(a : Int),false⟩ ⟨((a + 1 : Nat) : Int),true⟩) (PG l [.E] a) := by
 have no : ∀ c,PG l [c] a ⟨(a : Int),false⟩ := fun c => PG.no
 have j4 : ∀ b : Bool,(b = true → Fd x .E [.E,.E]) → OkP (B9 self l ⟨(a : Int),false⟩ ⟨((a + 1 : Nat) : Int),true⟩ b) (PG l [.E] a) := fun b hb => by
  unfold B9
  refine OkP.condB (fun h => rowP hl self hs hx [.E,.E] _ rfl (by decide) (fun k h => by rcases k with _ | _ | k <;> first | rfl | (simp at h; done) | (simp at h; omega)) (hb h)) (fun _ => OkP.ret (no _))
 have j3 : ∀ b : Bool,(b = true → Fd x .E [.E]) → OkP (Ca self l x ⟨(a : Int),false⟩ ⟨((a + 1 : Nat) : Int),true⟩ b) (PG l [.E] a) := fun b hb => by
  unfold Ca
  refine OkP.condB (fun h => rowP hl self hs hx [.E] _ rfl (by decide) (fun k h => by rcases k with _ | k <;> first | rfl | (simp at h; done) | (simp at h; omega)) (hb h)) (fun _ => OkP.condD (fun h5 => OkP.condD (fun h17 => OkP.bind (bareE x 2) fun y _ hy => j4 y fun h => .bin h5 h17 (hy h).2) (fun _ => j4 false (by simp))) (fun _ => j4 false (by simp)))
 have j2 : ∀ b : Bool,(b = true → Fd x .E []) → OkP (CT self l x ⟨(a : Int),false⟩ ⟨((a + 1 : Nat) : Int),true⟩ b) (PG l [.E] a) := fun b hb => by
  unfold CT
  exact OkP.condB (fun h => OkP.ret (PG.leaf hx (hb h))) (fun _ => OkP.condE (fun h => OkP.bind (bareE x 1) fun y _ hy => j3 y fun h' => .un (.inl h) (hy h').2) (fun _ => OkP.condE (fun h => OkP.bind (bareE x 1) fun y _ hy => j3 y fun h' => .un (.inr h) (hy h').2) (fun _ => j3 false (by simp))))
 have j1 : ∀ b : Bool,(b = true → Fd x .E []) → OkP (BC self l x ⟨(a : Int),false⟩ ⟨((a + 1 : Nat) : Int),true⟩ b) (PG l [.E] a) := fun b hb => by
  unfold BC
  exact OkP.condB (fun h => OkP.ret (PG.leaf hx (hb h))) (fun _ => OkP.condE (fun h => OkP.bind (N1 x hn 0) fun y _ hy => j2 y fun h' => .name h (hy h').2.2) (fun _ => j2 false (by simp)))
 unfold DZ
 exact OkP.condE (fun h => OkP.condB (fun _ => OkP.condE (fun hk => OkP.condD (fun _ => j1 _ fun _ => .num h hk) (fun _ => j1 false (by simp))) (fun _ => j1 false (by simp))) (fun _ => j1 false (by simp))) (fun _ => j1 false (by simp))
include hl ha hs hx hn hk1 in
theorem Rw : OkP (D0 self l x ⟨(a : Int),false⟩ ⟨((a + 1 : Nat) : Int),true⟩) (PG l [.S] a) := by
 have no : OkP (A3 self ⟨(a : Int),false⟩) (PG l [.S] a) := OkP.ret PG.no
 have j3 : ∀ b : Bool,(b = true → x.Op = 25 ∧ 0 ≤ x.Kids) → OkP (CW self l x ⟨(a : Int),false⟩ ⟨((a + 1 : Nat) : Int),true⟩ b) (PG l [.S] a) := fun b hb => by
  unfold CW
  exact OkP.condB (fun h => allP hl self ha hs hx hk1 .C (.sel (hb h).1 x.Kids.toNat (by have := (hb h).2; omega))) (fun _ => no)
 have j4 : ∀ b : Bool,(b = true → x.Op = 26 ∧ 0 ≤ x.Kids) → OkP (CV self l x ⟨(a : Int),false⟩ ⟨((a + 1 : Nat) : Int),true⟩ b) (PG l [.S] a) := fun b hb => by
  unfold CV
  exact OkP.condB (fun h => allP hl self ha hs hx hk1 .E (.start (hb h).1 x.Kids.toNat (by have := (hb h).2; omega))) (fun _ => no)
 have j6 : ∀ b : Bool,(b = true → x.Op = 30 ∨ x.Op = 31) → OkP (CU self x ⟨(a : Int),false⟩ ⟨((a + 1 : Nat) : Int),true⟩ b) (PG l [.S] a) := fun b hb => by
  unfold CU
  exact OkP.condB (fun h => OkP.bind (bareE x 0) fun y _ hy => OkP.condB (fun h' => OkP.ret (PG.leaf hx (.nul (hb h) (hy h').2))) (fun _ => no)) (fun _ => no)
 have r1 : Fd x .S [.E] → OkP ((AH self l ⟨((a + 1 : Nat) : Int),true⟩ ⟨#[69]⟩).bind fun y => some y) (PG l [.S] a) := fun sh => rowP hl self hs hx [.E] _ rfl (by decide) (fun k h => by rcases k with _ | k <;> first | rfl | (simp at h; done) | (simp at h; omega)) sh
 have j5 : ∀ b : Bool,(b = true → x.Op = 27 ∨ x.Op = 28 ∨ x.Op = 29) → OkP (Cb self l x ⟨(a : Int),false⟩ ⟨((a + 1 : Nat) : Int),true⟩ b) (PG l [.S] a) := fun b hb => by
  unfold Cb
  exact OkP.condB (fun h => OkP.bind (bareE x 1) fun y _ hy => OkP.condB (fun h' => r1 (.st1 (by have := hb h; omega) (hy h').2)) (fun _ => no)) (fun _ => OkP.condE (fun h => j6 _ fun h' => .inl h) (fun _ => j6 _ fun h' => .inr (by simpa using h')))
 have j2 : ∀ b : Bool,(b = true → x.Op = 18 ∨ x.Op = 19 ∨ x.Op = 20) → OkP (Cc self l x ⟨(a : Int),false⟩ ⟨((a + 1 : Nat) : Int),true⟩ b) (PG l [.S] a) := fun b hb => by
  unfold Cc
  refine OkP.condB (fun h => OkP.bind (N1 x hn 1) fun y _ hy => OkP.condB (fun h' => r1 (.st1 (by have := hb h; omega) (hy h').2.2)) (fun _ => no)) (fun _ => ?_)
  refine OkP.condE (fun h => OkP.bind (bareE x 2) fun y _ hy => OkP.condB (fun h' => rowP hl self hs hx [.R,.E] _ rfl (by decide) (fun k h => by rcases k with _ | _ | k <;> first | rfl | (simp at h; done) | (simp at h; omega)) (.send h (hy h').2)) (fun _ => no)) (fun _ => ?_)
  refine OkP.condE (fun h => OkP.bind (N1 x hn 1) fun y _ hy => OkP.condB (fun h' => rowP hl self hs hx [.R] _ rfl (by decide) (fun k h => by rcases k with _ | k <;> first | rfl | (simp at h; done) | (simp at h; omega)) (.recv h (hy h').2.2)) (fun _ => no)) (fun _ => ?_)
  refine OkP.condE (fun h => OkP.bind (bareE x 2) fun y _ hy => OkP.condB (fun h' => rowP hl self hs hx [.E,.B] _ rfl (by decide) (fun k h => by rcases k with _ | _ | k <;> first | rfl | (simp at h; done) | (simp at h; omega)) (.if2 h (hy h').2)) (fun _ => OkP.bind (bareE x 3) fun y _ hy => OkP.condB (fun h' => rowP hl self hs hx [.E,.B,.B] _ rfl (by decide) (fun k h => by rcases k with _ | _ | _ | k <;> first | rfl | (simp at h; done) | (simp at h; omega)) (.if3 h (hy h').2)) (fun _ => no))) (fun _ => ?_)
  refine OkP.condE (fun h => OkP.bind (bareE x 2) fun y _ hy => OkP.condB (fun h' => rowP hl self hs hx [.E,.B] _ rfl (by decide) (fun k h => by rcases k with _ | _ | k <;> first | rfl | (simp at h; done) | (simp at h; omega)) (.while h (hy h').2)) (fun _ => no)) (fun _ => ?_)
  refine OkP.condE (fun h => OkP.condD (fun h1 => OkP.bind (bareE x x.Kids) fun y _ hy => j3 _ fun _ => ⟨h,by omega⟩) (fun _ => j3 _ (by simp))) (fun _ => ?_)
  refine OkP.condE (fun h => OkP.condD (fun h1 => OkP.bind (N1 x hn x.Kids) fun y _ hy => j4 _ fun _ => ⟨h,by omega⟩) (fun _ => j4 _ (by simp))) (fun _ => ?_)
  exact OkP.condE (fun h => j5 _ fun _ => .inl h) (fun _ => OkP.condE (fun h => j5 _ fun _ => .inr (.inl h)) (fun _ => j5 _ fun h => .inr (.inr (by simpa using h))))
 unfold D0
 exact OkP.condE (fun h => j2 _ fun _ => .inl h) (fun _ => OkP.condE (fun h => j2 _ fun _ => .inr (.inl h)) (fun _ => j2 _ fun h => .inr (.inr (by simpa using h))))
include hl hs hx hn in
theorem PW : OkP (Dd self l x ⟨(a : Int),false⟩ ⟨((a + 1 : Nat) : Int),true⟩) (PG l [.C] a) := by
 have j3 : ∀ (w : ByteArray) (cs : List Cls) (b : Bool),(b = false → w.size = cs.length ∧ cs.length ≤ 10 ∧ (∀ (k : Nat) (h : k < cs.length),w.extract k (k + 1) = cB cs[k]) ∧ Fd x .C cs) → OkP (A9 self l ⟨(a : Int),false⟩ ⟨((a + 1 : Nat) : Int),true⟩ w b) (PG l [.C] a) := fun w cs b hb => by
  unfold A9
  exact OkP.condB (fun _ => OkP.ret PG.no) (fun h => rowP hl self hs hx cs w (hb h).1 (hb h).2.1 (hb h).2.2.1 (hb h).2.2.2)
 have j2 : ∀ (w : ByteArray) (cs : List Cls),w.size = cs.length → cs.length ≤ 10 → (∀ (k : Nat) (h : k < cs.length),w.extract k (k + 1) = cB cs[k]) → (0 ≤ x.N → x.N ≤ 1 → x.Kids = cs.length → Fd x .C cs) → OkP (Cm self l x ⟨(a : Int),false⟩ ⟨((a + 1 : Nat) : Int),true⟩ w) (PG l [.C] a) := fun w cs h1 h2 h3 h4 => by
  unfold Cm
  refine OkP.condD (fun _ => j3 w cs true (by simp)) (fun n0 => OkP.condD (fun _ => j3 w cs true (by simp)) (fun n1 => OkP.condNE (fun _ => j3 w cs true (by simp)) (fun hk => OkP.bind (OF x.Name (by show _ ≤ 9223372036854775807; omega)) fun y _ _ => OkP.condB (fun _ => j3 w cs true (by simp)) (fun _ => ?_))))
  have sh := h4 (by omega) (by omega) (by omega)
  exact OkP.condNE (fun _ => j3 w cs _ fun _ => ⟨h1,h2,h3,sh⟩) (fun _ => j3 w cs _ fun _ => ⟨h1,h2,h3,sh⟩)
 unfold Dd
 refine OkP.condE (fun h => OkP.bind (bareE x 1) fun y _ hy => OkP.condB (fun h' => rowP hl self hs hx [.B] _ rfl (by decide) (fun k h => by rcases k with _ | k <;> first | rfl | (simp at h; done) | (simp at h; omega)) (.els h (hy h').1 (hy h').2)) (fun _ => OkP.ret PG.no)) (fun _ => ?_)
 refine OkP.condE (fun h => ?_) (fun _ => OkP.condE (fun h => ?_) (fun _ => OkP.condE (fun h => ?_) (fun _ => OkP.ret PG.no)))
 · unfold By
   exact OkP.condE (fun n1 => OkP.grd (by decide) (j2 ⟨#[69,82,66]⟩ [.E,.R,.B] rfl (by decide) (fun k h => by rcases k with _ | _ | _ | k <;> first | rfl | (simp at h; done) | (simp at h; omega)) fun _ _ k => .onr1 h n1 k)) (fun n1 => j2 _ [.R,.B] rfl (by decide) (fun k h => by rcases k with _ | _ | k <;> first | rfl | (simp at h; done) | (simp at h; omega)) fun _ _ k => .onr0 h (by omega) k)
 · unfold By
   exact OkP.condE (fun n1 => OkP.grd (by decide) (j2 ⟨#[69,82,69,66]⟩ [.E,.R,.E,.B] rfl (by decide) (fun k h => by rcases k with _ | _ | _ | _ | k <;> first | rfl | (simp at h; done) | (simp at h; omega)) fun _ _ k => .ons1 h n1 k)) (fun n1 => j2 _ [.R,.E,.B] rfl (by decide) (fun k h => by rcases k with _ | _ | _ | k <;> first | rfl | (simp at h; done) | (simp at h; omega)) fun _ _ k => .ons0 h (by omega) k)
 · unfold By
   exact OkP.condE (fun n1 => OkP.grd (by decide) (j2 ⟨#[69,69,66]⟩ [.E,.E,.B] rfl (by decide) (fun k h => by rcases k with _ | _ | _ | k <;> first | rfl | (simp at h; done) | (simp at h; omega)) fun _ _ k => .aft1 h n1 k)) (fun n1 => j2 _ [.E,.B] rfl (by decide) (fun k h => by rcases k with _ | _ | k <;> first | rfl | (simp at h; done) | (simp at h; omega)) fun _ _ k => .aft0 h (by omega) k)
end
theorem LS {c d : Cls} (h : ((cB c).toList == (cB d).toList) = true) : c = d := by
 rw [eqS] at h
 have h := of_decide_eq_true h
 cases c <;> cases d <;> first | rfl | exact absurd h (by decide)
theorem piece_ok (l : List Aa) (hl : l.length ≤ 3000) (hN : NI l) : ∀ (n a : Nat) (c : Cls),l.length - a < n → OkP (Ax n l a (cB c)) (PG l [c] a)
 | 0,a,c,h => by omega
 | n + 1,a,c,h => by
   show OkP (Cd (Ax n) l a (cB c)) _
   unfold Cd
   refine OkP.condD (fun _ => OkP.ret PG.no) (fun ha => ?_)
   have ha : a < l.length := by omega
   have hs : ∀ (b : Nat) (c : Cls),a + 1 ≤ b → OkP (Ax n l b (cB c)) (PG l [c] b) := fun b c hb => by
    rcases Nat.lt_or_ge b l.length with h1 | h1
    · exact piece_ok l hl hN n b c (by omega)
    · cases n with
      | zero => omega
      | succ n =>
        show OkP (Cd (Ax n) l b (cB c)) _
        unfold Cd
        rw [dct (show (l.length : Int) ≤ b by omega)]
        exact OkP.ret PG.no
   rw [Gw ha]
   have hx : l[a]? = some l[a] := List.getElem?_eq_getElem ha
   obtain ⟨hn,hk0,hk1⟩ := hN l[a] (List.getElem_mem _)
   generalize l[a] = x at hx hn hk0 hk1
   rw [w64s (by omega)]
   have no : ∀ c,OkP (A5 (Ax n) (a : Int)) (PG l [c] a) := fun c => OkP.ret PG.no
   show OkP (cond ((cB c).toList == (cB .E).toList) _ _) _
   refine OkP.condB (fun e => ?_) (fun _ => ?_)
   · obtain rfl := LS e
     exact OkP.bind (Sq hl _ hs hx hn) fun y _ h => OkP.ret h
   show OkP (cond ((cB c).toList == (cB .S).toList) _ _) _
   refine OkP.condB (fun e => ?_) (fun _ => ?_)
   · obtain rfl := LS e
     exact OkP.bind (Rw hl _ ha hs hx hn hk1) fun y _ h => OkP.ret h
   show OkP (cond ((cB c).toList == (cB .C).toList) _ _) _
   refine OkP.condB (fun e => ?_) (fun _ => ?_)
   · obtain rfl := LS e
     exact OkP.bind (PW hl _ hs hx hn) fun y _ h => OkP.ret h
   show OkP (cond ((cB c).toList == (cB .R).toList) _ _) _
   refine OkP.condB (fun e => ?_) (fun _ => ?_)
   · obtain rfl := LS e
     have j : ∀ b : Bool,(b = true → x.Op = 33 ∧ (x.Kids = 0 ∨ x.Kids = 1)) → OkP (BY (Ax n) l a x b) (PG l [.R] a) := fun b hb => by
      unfold BY
      rw [w64s (by omega)]
      refine OkP.condB (fun h => allP hl _ ha hs hx hk1 .E ?_) (fun _ => no _)
      obtain ⟨h1,h2 | h2⟩ := hb h
      · rw [h2]; exact .ref0 h1 h2
      · rw [h2]; exact .ref1 h1 h2
     exact OkP.condE (fun h => OkP.bind (N1 x hn 0) fun y _ hy => OkP.condB (fun h' => j true fun _ => ⟨h,.inl (hy h').2.2⟩) (fun _ => OkP.bind (N1 x hn 1) fun z _ hz => j z fun h' => ⟨h,.inr (hz h').2.2⟩)) (fun _ => j false (by simp))
   show OkP (cond ((cB c).toList == (cB .B).toList) _ _) _
   refine OkP.condB (fun e => ?_) (fun _ => ?_)
   · obtain rfl := LS e
     have j : ∀ b : Bool,(b = true → x.Op = 32 ∧ 0 ≤ x.Kids) → OkP (BX (Ax n) l a x b) (PG l [.B] a) := fun b hb => by
      unfold BX
      rw [w64s (by omega)]
      exact OkP.condB (fun h => allP hl _ ha hs hx hk1 .S (.block (hb h).1 _ (by have := (hb h).2; omega))) (fun _ => no _)
     exact OkP.condE (fun h => OkP.condD (fun h0 => OkP.bind (bareE x x.Kids) fun y _ hy => j y fun _ => ⟨h,h0⟩) (fun _ => j false (by simp))) (fun _ => j false (by simp))
   show OkP (cond ((cB c).toList == (cB .P).toList) _ _) _
   refine OkP.condB (fun e => ?_) (fun _ => ?_)
   · obtain rfl := LS e
     have j : ∀ b : Bool,(b = true → x.Op = 39 ∧ x.Kids = 0) → OkP (CG (Ax n) a b) (PG l [.P] a) := fun b hb => by
      unfold CG
      rw [w64s (by omega)]
      exact OkP.condB (fun h => OkP.ret (PG.leaf hx (.par (hb h).1 (hb h).2))) (fun _ => no _)
     exact OkP.condE (fun h => OkP.bind (N1 x hn 0) fun y _ hy => j y fun h' => ⟨h,(hy h').2.2⟩) (fun _ => j false (by simp))
   show OkP (cond ((cB c).toList == (cB .U).toList) _ _) _
   refine OkP.condB (fun e => ?_) (fun _ => ?_)
   · obtain rfl := LS e
     have j : ∀ b : Bool,(b = true → x.Op = 42 ∧ 0 ≤ x.Kids) → OkP (BW (Ax n) l a x b) (PG l [.U] a) := fun b hb => by
      unfold BW
      rw [w64s (by omega)]
      exact OkP.condB (fun h => allP hl _ ha hs hx hk1 .D (.unit (hb h).1 _ (by have := (hb h).2; omega))) (fun _ => no _)
     exact OkP.condE (fun h => OkP.condD (fun h0 => OkP.bind (bareE x x.Kids) fun y _ hy => j y fun _ => ⟨h,h0⟩) (fun _ => j false (by simp))) (fun _ => j false (by simp))
   show OkP (cond ((cB c).toList == (cB .D).toList) _ _) _
   refine OkP.condB (fun e => ?_) (fun _ => no _)
   obtain rfl := LS e
   refine OkP.condE (fun h => ?_) (fun _ => OkP.condE (fun h => ?_) (fun _ => OkP.condE (fun h => ?_) (fun _ => no _)))
   · have j : ∀ b : Bool,(b = true → Fd x .D []) → OkP (BH (Ax n) a b) (PG l [.D] a) := fun b hb => by
       unfold BH
       rw [w64s (by omega)]
       exact OkP.condB (fun h => OkP.ret (PG.leaf hx (hb h))) (fun _ => no _)
     obtain ⟨y,ey,_⟩ := OF x.Name (by show _ ≤ 9223372036854775807; omega)
     rw [ey]
     show OkP (cond y _ _) _
     exact OkP.condB (fun hy => OkP.condE (fun hk => OkP.condD (fun h0 => j _ fun h1 => .chan h hk h0 (of_decide_eq_true h1) (by subst hy; exact ey)) (fun _ => j false (by simp))) (fun _ => j false (by simp))) (fun _ => j false (by simp))
   · exact OkP.bind (bareE x 1) fun y _ hy => OkP.condB (fun h' => rowP hl _ hs hx [.B] _ rfl (by decide) (fun k h => by rcases k with _ | k <;> first | rfl | (simp at h; done) | (simp at h; omega)) (.main h (hy h').2)) (fun _ => no _)
   · have j : ∀ b : Bool,(b = true → 1 ≤ x.Kids ∧ nmR x.Name) → OkP (CF (Ax n) l a x b) (PG l [.D] a) := fun b hb => by
       unfold CF
       refine OkP.condB (fun hbt => ?_) (fun _ => no _)
       obtain ⟨k1,nm⟩ := hb hbt
       rw [w64s (by omega),w64i (n := x.Kids - 1) (by omega) (by omega)]
       refine OkP.bind (Sh l hl _ (a + 1) hs .P (x.Kids - 1) (by omega) true (by omega)) fun y _ hy => ?_
       cases hyo : y.Ok with
       | false =>
         have ey : y = ⟨y.At,false⟩ := by rw [← hyo]
         rw [ey]
         refine OkP.bind (Qt l hl _ (a + 1) hs [.B] ⟨#[66]⟩ rfl (by decide) (fun k h => by rcases k with _ | k <;> first | rfl | (simp at h; done) | (simp at h; omega)) y.At false (by simp)) fun z _ hz => OkP.ret fun hr => ?_
         exact absurd (hz hr).1 (by simp)
       | true =>
         obtain ⟨j,ss,e1,e2⟩ := (hy hyo).2 hyo
         have ey : y = ⟨(j : Int),true⟩ := by rw [← hyo,← e1]
         rw [ey]
         have hj := e2.le.1
         refine OkP.bind (Qt l hl _ j (fun b c hb => hs b c (by omega)) [.B] ⟨#[66]⟩ rfl (by decide) (fun k h => by rcases k with _ | k <;> first | rfl | (simp at h; done) | (simp at h; omega)) j true (fun _ => rfl)) fun z _ hz => OkP.ret fun hr => ?_
         obtain ⟨j2,ts,e3,e4⟩ := (hz hr).2 hr
         exact ⟨j2,[a],e3,Pcs.mk1 hx (.proc h (x.Kids - 1).toNat (by omega) nm) (e2.app e4)⟩
     exact OkP.condD (fun k1 => OkP.bind (N1 x hn x.Kids) fun y _ hy => j y fun h' => ⟨k1,(hy h').1⟩) (fun _ => j false (by simp))
theorem PF (l : List Aa) (hl : l.length ≤ 3000) (hN : NI l) : ∃ a e,Eu l = some [a,e] ∧ (e = 0 → Pcs l [.U] 0 l.length [0]) := by
 obtain ⟨y,e1,pg⟩ := piece_ok l hl hN 4000 0 .U (by omega)
 unfold Eu
 rw [show HD l 0 ⟨#[85]⟩ = some y from e1]
 have j : ∀ b : Bool,(b = true → Pcs l [.U] 0 l.length [0]) → ∃ a e,CH y b = some [a,e] ∧ (e = 0 → Pcs l [.U] 0 l.length [0]) := fun b hb => by
  unfold CH
  cases b with
  | true => exact ⟨0,0,rfl,fun _ => hb rfl⟩
  | false => exact ⟨y.At,3,rfl,fun h => by omega⟩
 show ∃ a e,cond y.Ok _ _ = some [a,e] ∧ _
 cases hy : y.Ok with
 | false => exact j false (by simp)
 | true =>
   refine j _ fun h => ?_
   obtain ⟨jj,e2,e3,_⟩ := pg.one hy
   have : jj = l.length := by have : y.At = l.length := by simpa using h
                              omega
   subst this
   exact e3
end Go.Ab
end
section
namespace Go.Ab
set_option linter.unusedVariables false
structure Un (l : List Aa) (ds : List Nat) : Prop where
 hl : l.length ≤ 3000
 hN : NI l
 hu : Pcs l [.U] 0 l.length [0]
 hd : Pcs l (List.replicate ds.length .D) 1 l.length ds
 kids : AP l 0 = some (DK ds)
 op0 : ∃ x,l[0]? = some x ∧ x.Op = 42
theorem Un.mk' {l : List Aa} (hl : l.length ≤ 3000) (hN : NI l) (hu : Pcs l [.U] 0 l.length [0]) : ∃ ds,Un l ds := by
 obtain ⟨x,kc,ks,hx,hs,hk,_⟩ := hu.at_
 have hkl := hk.le.2.2
 refine ⟨ks,hl,hN,hu,?_,J5 hl hx hs hk,?_⟩
 · cases hs with
   | unit h n k => rw [List.length_replicate] at hkl; rw [hkl]; exact hk
 · cases hs with
   | unit h n k => exact ⟨x,hx,h⟩
theorem Pcs.nth {l : List Aa} {cs : List Cls} {i k : Nat} {ss : List Nat} (h : Pcs l cs i k ss) : ∀ (q : Nat) (hq : q < cs.length) (hq' : q < ss.length),∃ j,Pcs l [cs[q]] ss[q] j [ss[q]] ∧ i ≤ ss[q] ∧ j ≤ k ∧ (∀ q' (h' : q' < ss.length),q < q' → j ≤ ss[q']) ∧ (∀ q' (h' : q' < ss.length),q' < q → ss[q'] < ss[q]) := by
 induction h with
 | nil i => intro q hq; cases hq
 | cons c cs i j k x kc ks ss hx hs hk hr ih1 ih2 =>
   intro q hq hq'
   have p1 := Pcs.mk1 hx hs hk
   have le1 := p1.le; have le2 := hr.le
   have lt1 := (le1.2.1 (by simp)).1
   cases q with
   | zero =>
     refine ⟨j,p1,Nat.le_refl _,le2.1,fun q' h' hlt => ?_,fun q' h' hlt => by omega⟩
     cases q' with
     | zero => omega
     | succ q' =>
       obtain ⟨j',_,e2,_⟩ := ih2 q' (by simp at h'; omega) (by simpa using h')
       simpa using e2
   | succ q =>
     obtain ⟨j',e1,e2,e3,e4,e5⟩ := ih2 q (by simpa using hq) (by simpa using hq')
     refine ⟨j',by simpa using e1,?_,e3,fun q' h' hlt => ?_,fun q' h' hlt => ?_⟩
     · simp only [List.getElem_cons_succ]; omega
     · cases q' with
       | zero => omega
       | succ q' => simpa using e4 q' (by simpa using h') (by omega)
     · cases q' with
       | zero => simp only [List.getElem_cons_succ,List.getElem_cons_zero]; omega
       | succ q' => simpa using e5 q' (by simpa using h') (by omega)
theorem Pcs.cov {l : List Aa} {cs : List Cls} {i k : Nat} {ss : List Nat} (h : Pcs l cs i k ss) : ∀ p,i ≤ p → p < k → ∃ (q : Nat) (hq : q < cs.length) (hq' : q < ss.length) (j : Nat),Pcs l [cs[q]] ss[q] j [ss[q]] ∧ ss[q] ≤ p ∧ p < j := by
 induction h with
 | nil i => intro p h1 h2; omega
 | cons c cs i j k x kc ks ss hx hs hk hr ih1 ih2 =>
   intro p h1 h2
   rcases Nat.lt_or_ge p j with h3 | h3
   · exact ⟨0,by simp,by simp,j,Pcs.mk1 hx hs hk,h1,h3⟩
   · obtain ⟨q,hq,hq',j',e1,e2,e3⟩ := ih2 p h3 h2
     exact ⟨q + 1,by simpa using hq,by simpa using hq',j',by simpa using e1,by simpa using e2,e3⟩
theorem Un.end_any {l : List Aa} {ds : List Nat} (u : Un l ds) {p : Nat} (hp : p < l.length) : ∃ j : Nat,Bz l p = some (j : Int) ∧ p < j ∧ j ≤ l.length := by
 obtain ⟨c,j,h,hj⟩ := u.hu.all p (by omega) hp
 exact ⟨j,KQ u.hl h,(h.le.2.1 (by simp)).1,hj⟩
theorem Un.kids_any {l : List Aa} {ds : List Nat} (u : Un l ds) {p : Nat} (hp : p < l.length) : ∃ ks,AP l p = some (DK ks) ∧ ∀ k ∈ ks,k < l.length := by
 obtain ⟨c,j,h,hj⟩ := u.hu.all p (by omega) hp
 obtain ⟨x,kc,ks,hx,hs,hk,_⟩ := h.at_
 refine ⟨ks,J5 u.hl hx hs hk,fun k hkm => ?_⟩
 obtain ⟨q,hq,e⟩ := List.getElem_of_mem hkm
 have hlen := hk.le.2.2
 obtain ⟨j',e1,e2,e3,_⟩ := hk.nth q (by omega) hq
 have := (e1.le.2.1 (by simp))
 omega
theorem SQ (l : List Aa) (hl : l.length ≤ 3000) {p : Int} (hp : p < 0 ∨ (l.length : Int) ≤ p) : Bz l p = some (l.length : Int) := by
 show CO (Bi 3999) l p = _
 unfold CO
 rcases hp with h | h
 · rw [dct h]; rfl
 · by_cases h' : p < 0
   · rw [dct h']; rfl
   · rw [dcf h',dct h]; rfl
theorem Un.end_ok {l : List Aa} {ds : List Nat} (u : Un l ds) (p : Int) : OkP (Bz l p) (fun j => 0 ≤ j ∧ j ≤ l.length) := by
 by_cases h : p < 0 ∨ (l.length : Int) ≤ p
 · exact ⟨_,SQ l u.hl h,by omega⟩
 · obtain ⟨k,rfl⟩ := Int.eq_ofNat_of_zero_le (show 0 ≤ p by omega)
   obtain ⟨j,e,_⟩ := u.end_any (p := k) (by omega)
   exact ⟨_,e,by omega⟩
theorem Un.up_ok {l : List Aa} {ds : List Nat} (u : Un l ds) (i : Int) (hi : i ≤ l.length) : OkP (GB l i) (fun r => r = -1 ∨ (0 ≤ r ∧ r < l.length)) := by
 have hl := u.hl
 unfold GB
 refine Fm (S := Int) (fun k => 0 ≤ k ∧ k ≤ max i 0) (fun k => (i - k).toNat) (fun k ⟨k0,k1⟩ => ?_) 0 ⟨by omega,by omega⟩
 unfold HB
 have no : OkP (Fh l i k false) (Sum.elim (fun s' => (0 ≤ s' ∧ s' ≤ max i 0) ∧ (i - s').toNat < (i - k).toNat) (fun r => r = -1 ∨ (0 ≤ r ∧ r < l.length))) := OkP.map (OkP.ret (.inl rfl))
 refine OkP.condD (fun hk => ?_) (fun _ => no)
 unfold Fh
 refine OkP.condD (fun hk2 => ?_) (fun _ => OkP.map (OkP.ret (.inl rfl)))
 obtain ⟨n,rfl⟩ := Int.eq_ofNat_of_zero_le k0
 obtain ⟨ks,ek,_⟩ := u.kids_any (p := n) (by omega)
 rw [ek]
 have hkl : ks.length ≤ 4000 := by
  obtain ⟨c,j,h,hj⟩ := u.hu.all n (by omega) (by omega)
  obtain ⟨x,kc,ks',hx,hs,hk',_⟩ := h.at_
  have e2 := J5 u.hl hx hs hk'
  rw [ek] at e2
  have e3 : DK ks = DK ks' := Option.some.inj e2
  have e4 : ks.length = ks'.length := by have := congrArg List.length e3; simpa using this
  have key : ∀ {cs : List Cls} {i k : Nat} {ss : List Nat},Pcs l cs i k ss → cs.length ≤ k - i := by
   intro cs i k ss h
   induction h with
   | nil i => simp
   | cons c cs i j k x kc ks ss hx hs hk hr ih1 ih2 => have := hk.le; have := hr.le; simp; omega
  have := key hk'; have := hk'.le.2.2
  omega
 refine Fm (S := Int) (fun q => 0 ≤ q ∧ q ≤ ks.length) (fun q => (ks.length - q).toNat) (fun q ⟨q0,q1⟩ => ?_) 0 ⟨by omega,by omega⟩
 unfold HC
 rw [show ((DK ks).length : Int) = ks.length by simp]
 refine OkP.condD (fun hq => OkP.at q0 (by simpa using hq) fun y _ => OkP.condE (fun _ => OkP.map (OkP.map (OkP.ret (.inr (by omega))))) (fun _ => OkP.ret ?_)) (fun _ => OkP.map (OkP.ret ?_))
 · show (0 ≤ w64 (q + 1) ∧ w64 (q + 1) ≤ ks.length) ∧ (ks.length - w64 (q + 1)).toNat < (ks.length - q).toNat
   rw [w64i (by omega) (by omega)]
   omega
 · show (0 ≤ w64 ((n : Int) + 1) ∧ w64 ((n : Int) + 1) ≤ max i 0) ∧ (i - w64 ((n : Int) + 1)).toNat < (i - n).toNat
   rw [w64i (by omega) (by omega)]
   omega
def declB (x : Aa) : Bool := x.Op == 39 || x.Op == 18
theorem OO (x : Aa) : BG x = some (declB x) := by
 unfold BG Ez declB
 cases x.Op == 39 <;> rfl
def numN (l : List Aa) (r i : Nat) : Nat := ((l.take i).drop r).countP declB
theorem numN_self (l : List Aa) (r i : Nat) (h : i ≤ r) : numN l r i = 0 := by
 unfold numN
 rw [List.drop_eq_nil_of_le (by rw [List.length_take]; omega)]; rfl
theorem Mf (l : List Aa) (r i : Nat) (h : r ≤ i) (x : Aa) (hx : l[i]? = some x) : numN l r (i + 1) = numN l r i + if declB x = true then 1 else 0 := by
 have hi : i < l.length := (List.getElem?_eq_some_iff.mp hx).1
 unfold numN
 rw [List.take_add_one,hx,List.drop_append_of_le_length (by rw [List.length_take]; omega),List.countP_append]
 simp [List.countP_cons]
theorem QC (l : List Aa) (r : Nat) : ∀ (d i : Nat),r ≤ i → numN l r i ≤ numN l r (i + d)
 | 0,i,_ => Nat.le_refl _
 | d + 1,i,h => by
   have := QC l r d i h
   rcases Nat.lt_or_ge (i + d) l.length with h1 | h1
   · have := Mf l r (i + d) (by omega) l[i + d] (List.getElem?_eq_getElem h1)
     rw [show i + (d + 1) = i + d + 1 by omega]
     omega
   · unfold numN at *
     rw [List.take_of_length_le (i := i + (d + 1)) (by omega)]
     rw [List.take_of_length_le (i := i + d) (by omega)] at this
     exact this
theorem SI (l : List Aa) (r v e : Nat) (h1 : r ≤ v) (h2 : v < e) (x : Aa) (hx : l[v]? = some x) (hd : declB x = true) : numN l r v + 1 ≤ numN l r e := by
 have a := Mf l r v h1 x hx
 rw [hd,if_pos rfl] at a
 have b := QC l r (e - (v + 1)) (v + 1) (by omega)
 rw [show v + 1 + (e - (v + 1)) = e by omega] at b
 omega
theorem Pm (l : List Aa) (r i : Nat) : numN l r i ≤ l.length := by
 unfold numN
 have := List.countP_le_length (p := declB) (l := (l.take i).drop r)
 rw [List.length_drop,List.length_take] at this
 omega
theorem Me (l : List Aa) (hl : l.length ≤ 3000) (r i : Nat) (hi : i ≤ l.length) : Cp l r i = some (numN l r i : Int) := by
 unfold Cp
 rcases Nat.lt_or_ge i r with h | h
 · rw [numN_self l r i (by omega)]
   refine Loop_inr ?_
   show Bx l i 0 r = _
   unfold Bx
   rw [dcf (by omega)]; rfl
 · have key : ∀ (n k : Nat),r ≤ k → k + n = i → Loop (fun s : (Int × Int) => Bx l i s.1 s.2) ((numN l r k : Int),(k : Int)) = some (numN l r i : Int) := by
     intro n
     induction n with
     | zero =>
       intro k h1 h2
       have : k = i := by omega
       subst this
       refine Loop_inr ?_
       show Bx l k _ k = _
       unfold Bx
       rw [dcf (by omega)]; rfl
     | succ n ih =>
       intro k h1 h2
       have hk : k < l.length := by omega
       have := Pm l r k
       have st : Bx l i (numN l r k) k = some (.inl ((numN l r (k + 1) : Int),((k + 1 : Nat) : Int))) := by
        unfold Bx
        rw [dct (by omega),Gw hk]
        show ((BG l[k]).bind _) = _
        rw [OO,Mf l r k h1 l[k] (List.getElem?_eq_getElem hk)]
        show cond (declB l[k]) (some (Sum.inl (w64 ((numN l r k : Int) + 1),w64 ((k : Int) + 1)))) (some (Sum.inl ((numN l r k : Int),w64 ((k : Int) + 1)))) = _
        rw [w64s (by omega),w64s (by omega)]
        cases declB l[k] <;> rfl
       rw [Loop_inl st]
       exact ih (k + 1) (by omega) (by omega)
   have := key (i - r) r (by omega) (by omega)
   rw [numN_self l r r (by omega)] at this
   exact this
end Go.Ab
end
section
namespace Go.Ab
set_option linter.unusedVariables false
def nd (l : List Aa) (p : Nat) : Aa := (l[p]?).getD ⟨0,⟨#[]⟩,0,0,0⟩
theorem JT {l : List Aa} {p : Nat} {x : Aa} (h : l[p]? = some x) : nd l p = x := by unfold nd; rw [h]; rfl
theorem nd_at {l : List Aa} {p : Nat} (h : p < l.length) : l[p]? = some (nd l p) := by unfold nd; rw [List.getElem?_eq_getElem h]; rfl
theorem Hc {l : List Aa} {p : Nat} (h : p < l.length) : lAt l p = some (nd l p) := by rw [lAtn,nd_at h]
def IsR (l : List Aa) (ds : List Nat) (r e : Nat) : Prop := ∃ (q : Nat) (h : q < ds.length),ds[q] = r ∧ (nd l r).Op ≠ 38 ∧ Pcs l [.D] r e [r]
section
variable {l : List Aa} {ds : List Nat} (u : Un l ds)
include u
theorem Un.dAt (q : Nat) (h : q < ds.length) : ∃ j,Pcs l [.D] ds[q] j [ds[q]] ∧ 1 ≤ ds[q] ∧ ds[q] < j ∧ j ≤ l.length ∧ (∀ q' (h' : q' < ds.length),q < q' → j ≤ ds[q']) ∧ (∀ q' (h' : q' < ds.length),q' < q → ds[q'] < ds[q]) := by
 obtain ⟨j,e1,e2,e3,e4,e5⟩ := u.hd.nth q (by simpa using h) h
 rw [List.getElem_replicate] at e1
 exact ⟨j,e1,e2,(e1.le.2.1 (by simp)).1,e3,e4,e5⟩
theorem Un.dsl : ds.length ≤ 3000 := by
 have key : ∀ {cs : List Cls} {i k : Nat} {ss : List Nat},Pcs l cs i k ss → cs.length ≤ k - i := by
  intro cs i k ss h
  induction h with
  | nil i => simp
  | cons c cs i j k x kc ks ss hx hs hk hr ih1 ih2 => have := hk.le; have := hr.le; simp; omega
 have h1 := key u.hd
 have := u.hl
 rw [List.length_replicate] at h1
 omega
theorem Un.inR {r e : Nat} (h : IsR l ds r e) : 1 ≤ r ∧ r < e ∧ e ≤ l.length := by
 obtain ⟨q,hq,rfl,h2,h3⟩ := h
 obtain ⟨j,e1,e2,e3,e4,_⟩ := u.dAt q hq
 have := h3.le.2.1 (by simp)
 omega
theorem Un.uniq {r e r' e' i : Nat} (h : IsR l ds r e) (h' : IsR l ds r' e') (a : r ≤ i ∧ i < e) (b : r' ≤ i ∧ i < e') : r = r' ∧ e = e' := by
 obtain ⟨q,hq,rfl,h2,h3⟩ := h
 obtain ⟨q',hq',rfl,h2',h3'⟩ := h'
 have ee : ∀ {q : Nat} {hq : q < ds.length} {e : Nat},Pcs l [.D] ds[q] e [ds[q]] → ∀ {j : Nat},Pcs l [.D] ds[q] j [ds[q]] → e = j := by
  intro q hq e a j b
  have a := KQ u.hl a; rw [KQ u.hl b] at a
  have := Option.some.inj a; omega
 obtain ⟨j,e1,_,_,_,e4,_⟩ := u.dAt q hq
 obtain ⟨j',e1',_,_,_,e4',_⟩ := u.dAt q' hq'
 have := ee h3 e1; have := ee h3' e1'
 rcases Nat.lt_trichotomy q q' with hlt | rfl | hlt
 · have := e4 q' hq' hlt; omega
 · exact ⟨rfl,by have := ee h3 h3'; omega⟩
 · have := e4' q hq hlt; omega
theorem Un.routine_ok (i : Int) : OkP (B8 l i) (fun v => (v = -1 ∧ ∀ r e : Nat,IsR l ds r e → ¬ ((r : Int) ≤ i ∧ i < e)) ∨ ∃ r e : Nat,v = (r : Int) ∧ IsR l ds r e ∧ (r : Int) ≤ i ∧ i < e) := by
 have hdl := u.dsl
 unfold B8
 rw [u.kids]
 refine I0 ds.length (by omega) (fun k => ∀ (q : Nat) (h : q < ds.length),(q : Int) < k → ∀ e,(nd l ds[q]).Op ≠ 38 → Pcs l [.D] ds[q] e [ds[q]] → ¬ ((ds[q] : Int) ≤ i ∧ i < e)) (fun k k0 k1 hI => ?_) (fun q h hq => by omega)
 obtain ⟨n,rfl⟩ := Int.eq_ofNat_of_zero_le k0
 unfold Gd
 rw [show ((DK ds).length : Int) = ds.length by simp]
 refine OkP.condD (fun hk => ?_) (fun hk => OkP.map (OkP.ret (.inl ⟨rfl,fun r e ⟨q,hq,hr,h2,h3⟩ => ?_⟩)))
 · have hn : n < ds.length := by omega
   have en : lAt (DK ds) (n : Int) = some (ds[n] : Int) := by rw [Gw (by simpa using hn)]; simp
   obtain ⟨j,e1,e2,e3,e4,_⟩ := u.dAt n hn
   have go : (∀ e,(nd l ds[n]).Op ≠ 38 → Pcs l [.D] ds[n] e [ds[n]] → ¬ ((ds[n] : Int) ≤ i ∧ i < e)) → OkP (B1 (DK ds) n false) (Sum.elim (fun j => (n : Int) < ds.length ∧ j = w64 ((n : Int) + 1) ∧ ∀ (q : Nat) (h : q < ds.length),(q : Int) < (n : Int) + 1 → ∀ e,(nd l ds[q]).Op ≠ 38 → Pcs l [.D] ds[q] e [ds[q]] → ¬ ((ds[q] : Int) ≤ i ∧ i < e)) (fun v => (v = -1 ∧ ∀ r e : Nat,IsR l ds r e → ¬ ((r : Int) ≤ i ∧ i < e)) ∨ ∃ r e : Nat,v = (r : Int) ∧ IsR l ds r e ∧ (r : Int) ≤ i ∧ i < e)) := by
    intro h
    refine OkP.ret ⟨hk,rfl,fun q hq hlt e => ?_⟩
    by_cases hqn : q = n
    · subst hqn; exact h e
    · exact hI q hq (by omega) e
   rw [en]
   show OkP ((lAt l (ds[n] : Int)).bind _) _
   rw [Hc (by omega)]
   show OkP (cond ((nd l ds[n]).Op != 38) _ _) _
   refine OkP.condNE (fun h38 => ?_) (fun h38 => go fun e h => absurd h38 h)
   show OkP (cond (decide ((ds[n] : Int) ≤ i)) _ _) _
   refine OkP.condD (fun hle => ?_) (fun hle => go fun e _ _ h => hle h.1)
   show OkP ((Bz l (ds[n] : Int)).bind _) _
   rw [KQ u.hl e1]
   show OkP (B1 (DK ds) n (decide (i < (j : Int)))) _
   by_cases hj : i < (j : Int)
   · rw [dct hj]
     unfold B1
     rw [en]
     exact OkP.map (OkP.ret (.inr ⟨ds[n],j,rfl,⟨n,hn,rfl,h38,e1⟩,hle,hj⟩))
   · rw [dcf hj]
     refine go fun e _ he h => ?_
     have a := KQ u.hl he; rw [KQ u.hl e1] at a
     have := Option.some.inj a; omega
 · subst hr
   exact hI q hq (by omega) e h2 h3
theorem Un.routine_in {r e i : Nat} (h : IsR l ds r e) (a : r ≤ i ∧ i < e) : B8 l i = some (r : Int) := by
 obtain ⟨v,ev,⟨h1,h2⟩ | ⟨r',e',h1,h2,h3,h4⟩⟩ := u.routine_ok i
 · exact absurd ⟨by omega,by omega⟩ (h2 r e h)
 · rw [ev,h1,(u.uniq h h2 a ⟨by omega,by omega⟩).1]
theorem Un.there_ok (v i : Nat) (hv : v < l.length) : Ok (Gl l v i) := by
 unfold Gl
 refine OkP.at (by omega) (by omega) fun x _ => OkP.condE (fun _ => OkP.rett _) fun _ => OkP.bind (u.end_ok v) fun y _ _ => OkP.condD (fun _ => OkP.bind (u.up_ok v (by omega)) fun z _ _ => OkP.bind (u.end_ok z) fun w _ _ => OkP.rett _) fun _ => OkP.rett _
theorem Un.find_ok {r e i : Nat} (h : IsR l ds r e) (a : r ≤ i ∧ i < e) (s : ByteArray) : OkP (DN l i s) (fun w => w = -1 ∨ ∃ v : Nat,r ≤ v ∧ v < i ∧ declB (nd l v) = true ∧ w = (numN l r v : Int)) := by
 have hr := u.inR h
 have hl := u.hl
 unfold DN
 rw [u.routine_in h a]
 refine Fm (S := Int) (fun v => (r : Int) ≤ v ∧ v ≤ i) (fun v => (i - v).toNat) (fun v ⟨v0,v1⟩ => ?_) r ⟨by omega,by omega⟩
 obtain ⟨n,rfl⟩ := Int.eq_ofNat_of_zero_le (show 0 ≤ v by omega)
 unfold GZ
 refine OkP.condD (fun hv => ?_) (fun _ => OkP.map (OkP.ret (.inl rfl)))
 have hnl : n < l.length := by omega
 have go : OkP (Dx l r n false) (Sum.elim (fun s' => ((r : Int) ≤ s' ∧ s' ≤ i) ∧ ((i : Int) - s').toNat < ((i : Int) - n).toNat) (fun w => w = -1 ∨ ∃ v : Nat,r ≤ v ∧ v < i ∧ declB (nd l v) = true ∧ w = (numN l r v : Int))) := by
  refine OkP.ret ?_
  show ((r : Int) ≤ w64 ((n : Int) + 1) ∧ w64 ((n : Int) + 1) ≤ i) ∧ _
  rw [w64s (by omega)]
  omega
 rw [Hc hnl]
 show OkP ((BG (nd l n)).bind _) _
 rw [OO]
 show OkP (cond (declB (nd l n)) _ _) _
 refine OkP.condB (fun hd => ?_) (fun _ => go)
 show OkP (cond ((nd l n).Name.toList == s.toList) _ _) _
 refine OkP.condB (fun _ => ?_) (fun _ => go)
 refine OkP.bind (u.there_ok n i hnl) fun b _ _ => ?_
 cases b with
 | false => exact go
 | true =>
   unfold Dx
   rw [Me l hl r n (by omega)]
   exact OkP.map (OkP.ret (.inr ⟨n,by omega,by omega,hd,rfl⟩))
omit u in
theorem dsAt (n : Nat) (hn : n < ds.length) : lAt (DK ds) (n : Int) = some (ds[n] : Int) := by rw [Gw (by simpa using hn)]; simp
theorem Un.global_ok (s : ByteArray) : OkP (DU l s) (fun d => d = -1 ∨ ∃ (q : Nat) (h : q < ds.length),d = (ds[q] : Int)) := by
 have hdl := u.dsl
 unfold DU
 rw [u.kids]
 refine I0 ds.length (by omega) (fun k => True) (fun k k0 k1 _ => ?_) trivial
 obtain ⟨n,rfl⟩ := Int.eq_ofNat_of_zero_le k0
 unfold Gz
 rw [show ((DK ds).length : Int) = ds.length by simp]
 refine OkP.condD (fun hk => ?_) (fun hk => OkP.map (OkP.ret (.inl rfl)))
 have hn : n < ds.length := by omega
 obtain ⟨j,e1,e2,e3,e4,_⟩ := u.dAt n hn
 have en := dsAt n hn
 rw [en]
 show OkP ((lAt l (ds[n] : Int)).bind _) _
 rw [Hc (by omega)]
 have nm : ∀ x,Ok (Br x) := fun x => by unfold Br; (repeat' (with_reducible first | exact OkP.rett _ | refine OkP.condN (fun _ => ?_) (fun _ => ?_) | refine OkP.condD (fun _ => ?_) (fun _ => ?_) | refine OkP.condE (fun _ => ?_) (fun _ => ?_) | refine OkP.condNE (fun _ => ?_) (fun _ => ?_) | refine OkP.condB (fun _ => ?_) (fun _ => ?_) | refine OkP.map ?_ | refine OkP.ret ?_ | refine OkP.at (by omega) (by omega) (fun _ _ => ?_) | refine OkP.sat (by omega) (by omega) (fun _ _ => ?_) | assumption))
 refine OkP.bind (x := Br (nd l ds[n])) (nm _) fun y _ _ => OkP.condB (fun _ => ?_) (fun _ => OkP.ret ⟨hk,rfl,trivial⟩)
 exact OkP.map (OkP.ret (.inr ⟨n,hn,rfl⟩))
def cN (l : List Aa) (ds : List Nat) (b : Bool) (q : Nat) : Nat := (ds.take q).countP fun d => ((nd l d).Op == 38) == b
omit u in
theorem Of (b : Bool) (q : Nat) (h : q < ds.length) : cN l ds b (q + 1) = cN l ds b q + if (((nd l ds[q]).Op == 38) == b) = true then 1 else 0 := by
 unfold cN
 rw [HY h,List.countP_append]
 simp [List.countP_cons]
omit u in
theorem MZ (b : Bool) (q : Nat) : cN l ds b q ≤ ds.length := by
 unfold cN
 have := List.countP_le_length (p := fun d => ((nd l d).Op == 38) == b) (l := ds.take q)
 rw [List.length_take] at this
 omega
theorem Un.place_eq (q : Nat) (h : q < ds.length) : Dp l (ds[q] : Int) = some (cN l ds ((nd l ds[q]).Op == 38) q : Int) := by
 have hdl := u.dsl
 obtain ⟨j,e1,e2,e3,e4,_,e6⟩ := u.dAt q h
 unfold Dp
 rw [u.kids]
 have key : ∀ (n k : Nat),k + n = q → Loop (fun s : (Int × Int) => CA l (ds[q] : Int) (DK ds) s.1 s.2) ((cN l ds ((nd l ds[q]).Op == 38) k : Int),(k : Int)) = some (cN l ds ((nd l ds[q]).Op == 38) q : Int) := by
  intro n
  induction n with
  | zero =>
    intro k hk
    have : k = q := by omega
    subst this
    refine Loop_inr ?_
    show CA l (ds[k] : Int) (DK ds) _ k = _
    unfold CA
    rw [dct (by simp; omega),dsAt k h]
    show Da _ _ _ _ _ (decide ((ds[k] : Int) < (ds[k] : Int))) = _
    rw [dcf (by omega)]; rfl
  | succ n ih =>
    intro k hk
    have hkl : k < ds.length := by omega
    have hc := MZ (l := l) (ds := ds) ((nd l ds[q]).Op == 38) k
    obtain ⟨j',_,_,e3',e4',_⟩ := u.dAt k hkl
    have st : CA l (ds[q] : Int) (DK ds) (cN l ds ((nd l ds[q]).Op == 38) k : Int) k = some (.inl ((cN l ds ((nd l ds[q]).Op == 38) (k + 1) : Int),((k + 1 : Nat) : Int))) := by
     unfold CA
     rw [dct (by simp; omega),dsAt k hkl]
     show Da _ _ _ _ _ (decide ((ds[k] : Int) < (ds[q] : Int))) = _
     rw [dct (by have := e6 k hkl (by omega); omega)]
     unfold Da
     rw [dsAt k hkl]
     show ((lAt l (ds[k] : Int)).bind _) = _
     rw [Hc (by omega)]
     show ((lAt l (ds[q] : Int)).bind _) = _
     rw [Hc (by omega),Of _ k hkl]
     show cond (((nd l ds[k]).Op == 38) == ((nd l ds[q]).Op == 38)) (some (Sum.inl (w64 ((cN l ds ((nd l ds[q]).Op == 38) k : Int) + 1),w64 ((k : Int) + 1)))) (some (Sum.inl ((cN l ds ((nd l ds[q]).Op == 38) k : Int),w64 ((k : Int) + 1)))) = _
     rw [w64s (by omega),w64s (by omega)]
     cases (((nd l ds[k]).Op == 38) == ((nd l ds[q]).Op == 38)) <;> rfl
    rw [Loop_inl st]
    exact ih (k + 1) (by omega)
 exact key q 0 (by omega)
end
end Go.Ab
end
section
namespace Go.Ab
set_option linter.unusedVariables false
def isV (op : Int) : Prop := op = 2 ∨ op = 19 ∨ op = 20 ∨ op = 22 ∨ op = 34
structure WrF (l : List Aa) (ds : List Nat) (r e i : Nat) : Prop where
 dec : declB (nd l i) = true → numN l r i < 16
 nam : isV (nd l i).Op → ∃ v : Nat,DN l i (nd l i).Name = some (numN l r v : Int) ∧ r ≤ v ∧ v < i ∧ declB (nd l v) = true
 glo : (nd l i).Op = 33 ∨ (nd l i).Op = 26 → ∃ (q : Nat) (h : q < ds.length),DU l (nd l i).Name = some (ds[q] : Int) ∧ ((nd l ds[q]).Op == 38) = ((nd l i).Op == 33)
structure NmF (l : List Aa) (ds : List Nat) (r e i : Nat) (v : Int) : Prop where
 var : isV (nd l i).Op ∨ (nd l i).Op = 18 → ∃ w : Nat,r ≤ w ∧ w < e ∧ declB (nd l w) = true ∧ v = (numN l r w : Int)
 ref : (nd l i).Op = 33 → ∃ (q : Nat) (h : q < ds.length),(nd l ds[q]).Op = 38 ∧ v = (cN l ds true q : Int)
 sta : (nd l i).Op = 26 → ∃ (q : Nat) (h : q < ds.length),(nd l ds[q]).Op ≠ 38 ∧ v = (cN l ds false q : Int)
section
variable {l : List Aa} {ds : List Nat} (u : Un l ds)
include u
theorem Un.wrong_ok {r e i : Nat} (h : IsR l ds r e) (a : r ≤ i ∧ i < e) : OkP (Gk l i) (fun w => w = 0 → WrF l ds r e i) := by
 have hr := u.inR h
 have hi : i < l.length := by omega
 have hl := u.hl
 unfold Gk
 rw [Hc hi]
 generalize hx : nd l i = x
 have hop : (nd l i).Op = x.Op := by rw [hx]
 have j4 : ∀ b : Bool,(b = true → x.Op = 33 ∨ x.Op = 26) → (b = false → ¬ (x.Op = 33 ∨ x.Op = 26)) → ¬ (x.Op = 39 ∨ x.Op = 18) → ¬ isV x.Op → OkP (Ec l x b) (fun w => w = 0 → WrF l ds r e i) := fun b hb hb' hd hv => by
  have nod : declB (nd l i) = true → False := fun hd' => hd (by rw [hx] at hd'; unfold declB at hd'; simpa using hd')
  unfold Ec
  refine OkP.condB (fun ht => ?_) (fun hf => OkP.ret fun _ => ⟨fun h => (nod h).elim,fun h => absurd (hop ▸ h) hv,fun h => absurd (by rw [← hop]; exact h) (hb' hf)⟩)
  refine OkP.bind (u.global_ok x.Name) fun d ed hdd => OkP.condD (fun _ => OkP.ret fun h => by omega) (fun hd0 => ?_)
  obtain h1 | ⟨q,hq,rfl⟩ := hdd
  · omega
  obtain ⟨j,e1,e2,e3,e4,_⟩ := u.dAt q hq
  rw [Hc (by omega)]
  show OkP (cond (!((nd l ds[q]).Op == 38) == (x.Op == 33)) _ _) _
  refine OkP.condB (fun _ => OkP.ret fun h => by omega) (fun hc => OkP.ret fun _ => ⟨fun h => (nod h).elim,fun h => absurd (hop ▸ h) hv,fun _ => ⟨q,hq,by rw [hx]; exact ed,?_⟩⟩)
  rw [hx]
  generalize ((nd l ds[q]).Op == 38) = b1 at hc ⊢
  generalize (x.Op == 33) = b2 at hc ⊢
  cases b1 <;> cases b2 <;> simp_all
 have j3 : ∀ b : Bool,(b = true → isV x.Op) → (b = false → ¬ isV x.Op) → ¬ (x.Op = 39 ∨ x.Op = 18) → OkP (BU l i x b) (fun w => w = 0 → WrF l ds r e i) := fun b hb hb' hd => by
  have nod : declB (nd l i) = true → False := fun hd' => hd (by rw [hx] at hd'; unfold declB at hd'; simpa using hd')
  have n26 : (x.Op == 26) = false → ¬ x.Op = 33 → ¬ (x.Op = 33 ∨ x.Op = 26) := fun h h33 => by
   have : ¬ x.Op = 26 := by simpa using h
   omega
  unfold BU
  refine OkP.condB (fun ht => ?_) (fun hf => OkP.condE (fun h33 => j4 _ (fun _ => .inl h33) (fun h => by rw [h33] at h; cases h) hd (hb' hf)) (fun h33 => j4 _ (fun h => .inr (by simpa using h)) (fun h => n26 h h33) hd (hb' hf)))
  have hv := hb ht
  refine OkP.bind (u.find_ok h a x.Name) fun w ew hw => OkP.condD (fun _ => OkP.ret fun h => by clear hw; omega) (fun h0 => OkP.ret fun _ => ⟨fun h => (nod h).elim,fun _ => ?_,fun h => ?_⟩)
  · obtain h1 | ⟨v,v1,v2,v3,rfl⟩ := hw
    · omega
    · exact ⟨v,by rw [hx]; exact ew,v1,v2,v3⟩
  · clear hw; rw [hop] at h; unfold isV at hv; omega
 have j2 : ∀ b : Bool,(b = true → x.Op = 39 ∨ x.Op = 18) → (b = false → ¬ (x.Op = 39 ∨ x.Op = 18)) → OkP (Cz l i x b) (fun w => w = 0 → WrF l ds r e i) := fun b hb hb' => by
  unfold Cz
  refine OkP.condB (fun ht => ?_) (fun hf => ?_)
  · have hd := hb ht
    refine OkP.bind (u.find_ok h a x.Name) fun w ew hw => OkP.condD (fun _ => OkP.ret fun h => by clear hw; omega) (fun _ => ?_)
    clear hw
    rw [u.routine_in h a]
    show OkP ((Cp l r i).bind _) _
    rw [Me l hl r i (by omega)]
    show OkP (cond (decide ((16 : Int) ≤ (numN l r i : Int))) _ _) _
    refine OkP.condD (fun _ => OkP.ret fun h => by omega) (fun hn => OkP.ret fun _ => ⟨fun _ => by omega,fun h => ?_,fun h => ?_⟩)
    · rw [hop] at h; unfold isV at h; omega
    · rw [hop] at h; omega
  · have hd := hb' hf
    refine OkP.condE (fun h2 => j3 _ (fun _ => .inl h2) (fun h => by rw [h2] at h; cases h) hd) (fun h2 => ?_)
    refine OkP.condE (fun h2 => j3 _ (fun _ => .inr (.inl h2)) (fun h => by rw [h2] at h; cases h) hd) (fun h3 => ?_)
    refine OkP.condE (fun h2 => j3 _ (fun _ => .inr (.inr (.inl h2))) (fun h => by rw [h2] at h; cases h) hd) (fun h4 => ?_)
    refine OkP.condE (fun h2 => j3 _ (fun _ => .inr (.inr (.inr (.inl h2)))) (fun h => by rw [h2] at h; cases h) hd) (fun h5 => ?_)
    refine j3 _ (fun h => .inr (.inr (.inr (.inr (by simpa using h))))) (fun h => ?_) hd
    have : ¬ x.Op = 34 := by simpa using h
    unfold isV; omega
 show OkP (cond (x.Op == 39) (Cz l i x (x.Op == 39)) (Cz l i x (x.Op == 18))) _
 refine OkP.condE (fun h => j2 _ (fun _ => .inl h) (fun h' => by rw [h] at h'; cases h')) (fun h => j2 _ (fun h' => .inr (by simpa using h')) (fun h' => ?_))
 have : ¬ x.Op = 18 := by simpa using h'
 omega
theorem Un.num_ok {r e i : Nat} (h : IsR l ds r e) (a : r ≤ i ∧ i < e) (hw : WrF l ds r e i) (hni : r < i) : OkP (Bo l i) (NmF l ds r e i) := by
 have hr := u.inR h
 have hi : i < l.length := by omega
 have hl := u.hl
 have hnd : (nd l i).Op ≠ 38 ∧ (nd l i).Op ≠ 40 ∧ (nd l i).Op ≠ 41 := by
  obtain ⟨q,hq,rfl,h2,h3⟩ := h
  obtain ⟨x,kc,ks,hx,hs,hk,_⟩ := h3.at_
  cases hs with
  | chan h k n0 n1 nm => rw [JT hx] at h2; exact absurd h h2
  | main hh k =>
    have := hk.inner (by simp [inner]) i (nd l i) (by omega) (by omega) (nd_at hi)
    omega
  | proc hh n k nm =>
    obtain ⟨q,hq,hq',j,e1,e2,e3⟩ := hk.cov i (by omega) (by omega)
    obtain ⟨y,kc',ks',hy,hsy,hky,_⟩ := e1.at_
    rcases Nat.lt_or_ge q n with hqn | hqn
    · have : (List.replicate n Cls.P ++ [Cls.B])[q] = Cls.P := by rw [List.getElem_append_left (by simpa using hqn)]; simp
      rw [this] at hsy
      cases hsy with
      | par hh' k' =>
        cases hky
        have : i = ks[q] := by omega
        rw [← this] at hy
        rw [JT hy]; omega
    · have : (List.replicate n Cls.P ++ [Cls.B])[q] = Cls.B := by
        have : q = n := by simp at hq; omega
        subst this; simp
      rw [this] at e1
      have := e1.inner (by simp [inner]) i (nd l i) e2 e3 (nd_at hi)
      omega
 unfold Bo
 rw [Hc hi]
 generalize hx : nd l i = x
 have hop : (nd l i).Op = x.Op := by rw [hx]
 rw [hop] at hnd
 have j4 : ∀ b : Bool,(b = true → isV x.Op) → (b = false → ¬ isV x.Op) → ¬ (x.Op = 33 ∨ x.Op = 26 ∨ x.Op = 18) → OkP (BV l i x b) (NmF l ds r e i) := fun b hb hb' hd => by
  unfold BV
  refine OkP.condB (fun ht => ?_) (fun hf => OkP.ret ⟨fun h => ?_,fun h => ?_,fun h => ?_⟩)
  · obtain ⟨v,v1,v2,v3,v4⟩ := hw.nam (by rw [hop]; exact hb ht)
    rw [hx] at v1
    rw [v1]
    exact OkP.ret ⟨fun _ => ⟨v,v2,by omega,v4,rfl⟩,fun h => by rw [hop] at h; omega,fun h => by rw [hop] at h; omega⟩
  · rw [hop] at h; exact absurd h (by have := hb' hf; unfold isV at *; omega)
  · rw [hop] at h; omega
  · rw [hop] at h; omega
 have j3 : ∀ b : Bool,(b = true → x.Op = 39 ∨ x.Op = 18) → (b = false → ¬ (x.Op = 39 ∨ x.Op = 18)) → ¬ (x.Op = 33 ∨ x.Op = 26) → OkP (DS l i x b) (NmF l ds r e i) := fun b hb hb' hd => by
  unfold DS
  refine OkP.condB (fun ht => ?_) (fun hf => ?_)
  · have hdd := hb ht
    rw [u.routine_in h a]
    show OkP ((Cp l r i).bind fun y58 => some y58) _
    rw [Me l hl r i (by omega)]
    refine OkP.ret ⟨fun _ => ⟨i,a.1,a.2,?_,rfl⟩,fun h => by rw [hop] at h; omega,fun h => by rw [hop] at h; omega⟩
    rw [hx]; unfold declB; simpa using hdd
  · have hdd := hb' hf
    have hd' : ¬ (x.Op = 33 ∨ x.Op = 26 ∨ x.Op = 18) := by omega
    refine OkP.condE (fun h2 => j4 _ (fun _ => .inl h2) (fun h => by rw [h2] at h; cases h) hd') (fun h2 => ?_)
    refine OkP.condE (fun h2 => j4 _ (fun _ => .inr (.inl h2)) (fun h => by rw [h2] at h; cases h) hd') (fun h3 => ?_)
    refine OkP.condE (fun h2 => j4 _ (fun _ => .inr (.inr (.inl h2))) (fun h => by rw [h2] at h; cases h) hd') (fun h4 => ?_)
    refine OkP.condE (fun h2 => j4 _ (fun _ => .inr (.inr (.inr (.inl h2)))) (fun h => by rw [h2] at h; cases h) hd') (fun h5 => ?_)
    refine j4 _ (fun h => .inr (.inr (.inr (.inr (by simpa using h))))) (fun h => ?_) hd'
    have : ¬ x.Op = 34 := by simpa using h
    unfold isV; omega
 have j2 : ∀ b : Bool,(b = true → x.Op = 33 ∨ x.Op = 26) → (b = false → ¬ (x.Op = 33 ∨ x.Op = 26)) → OkP (DT l i x b) (NmF l ds r e i) := fun b hb hb' => by
  unfold DT
  refine OkP.condB (fun ht => ?_) (fun hf => ?_)
  · have h33 := hb ht
    obtain ⟨q,hq,e1,e2⟩ := hw.glo (by rw [hop]; exact h33)
    rw [hx] at e1 e2
    rw [e1]
    show OkP ((Dp l (ds[q] : Int)).bind fun y51 => some y51) _
    rw [u.place_eq q hq]
    refine OkP.ret ⟨fun h => ?_,fun h => ⟨q,hq,?_,?_⟩,fun h => ⟨q,hq,?_,?_⟩⟩
    · rw [hop] at h; unfold isV at h; omega
    · rw [hop] at h; rw [h] at e2; simpa using e2
    · rw [hop] at h; rw [e2,h]; rfl
    · rw [hop] at h; rw [h] at e2; simpa using e2
    · rw [hop] at h; rw [e2,h]; rfl
  · have hd := hb' hf
    refine OkP.condE (fun h => j3 _ (fun _ => .inl h) (fun h' => by rw [h] at h'; cases h') hd) (fun h => j3 _ (fun h' => .inr (by simpa using h')) (fun h' => ?_) hd)
    have : ¬ x.Op = 18 := by simpa using h'
    omega
 have j1 : OkP (AK l i x false) (NmF l ds r e i) := by
  unfold AK
  refine OkP.condE (fun h => j2 _ (fun _ => .inl h) (fun h' => by rw [h] at h'; cases h')) (fun h => j2 _ (fun h' => .inr (by simpa using h')) (fun h' => ?_))
  have : ¬ x.Op = 26 := by simpa using h'
  omega
 show OkP (cond (x.Op == 38) (AK l i x (x.Op == 38)) (cond (x.Op == 40) (AK l i x (x.Op == 40)) (AK l i x (x.Op == 41)))) _
 rw [beqf hnd.1,beqf hnd.2.1,beqf hnd.2.2]
 exact j1
theorem Un.num_d (q : Nat) (hq : q < ds.length) : Ok (Bo l ds[q]) := by
 obtain ⟨j,e1,e2,e3,e4,_⟩ := u.dAt q hq
 have hx := nd_at (l := l) (p := ds[q]) (by omega)
 have hop : (nd l ds[q]).Op = 38 ∨ (nd l ds[q]).Op = 40 ∨ (nd l ds[q]).Op = 41 := by
  obtain ⟨x,kc,ks,hx',hs,hk,_⟩ := e1.at_
  rw [JT hx']
  cases hs with
  | chan h => exact .inl h
  | main h => exact .inr (.inr h)
  | proc h => exact .inr (.inl h)
 unfold Bo
 rw [Hc (by omega)]
 have j1 : Ok (AK l ds[q] (nd l ds[q]) true) := by
  unfold AK
  show Ok ((Dp l ds[q]).bind fun y44 => some y44)
  rw [u.place_eq q hq]
  exact OkP.rett _
 show Ok (cond ((nd l ds[q]).Op == 38) (AK l ds[q] (nd l ds[q]) ((nd l ds[q]).Op == 38)) (cond ((nd l ds[q]).Op == 40) (AK l ds[q] (nd l ds[q]) ((nd l ds[q]).Op == 40)) (AK l ds[q] (nd l ds[q]) ((nd l ds[q]).Op == 41))))
 rcases hop with h | h | h <;> rw [h] <;> exact j1
theorem Un.num_0 : Ok (Bo l (0 : Nat)) := by
 obtain ⟨x,hx,ho⟩ := u.op0
 have h0 : 0 < l.length := (List.getElem?_eq_some_iff.mp hx).1
 unfold Bo
 rw [lAtn,hx]
 have : AK l (0 : Nat) x false = some (-1) := by
  unfold AK DT DS BV
  rw [ho]; rfl
 show Ok (cond (x.Op == 38) (AK l (0 : Nat) x (x.Op == 38)) (cond (x.Op == 40) (AK l (0 : Nat) x (x.Op == 40)) (AK l (0 : Nat) x (x.Op == 41))))
 rw [ho]
 exact ⟨_,this,trivial⟩
theorem Un.where_ (i : Nat) (hi : i < l.length) : i = 0 ∨ (∃ (q : Nat) (h : q < ds.length),i = ds[q]) ∨ ∃ r e,IsR l ds r e ∧ r < i ∧ i < e := by
 by_cases h0 : i = 0
 · exact .inl h0
 · obtain ⟨q,hq,hq',j,e1,e2,e3⟩ := u.hd.cov i (by omega) hi
   rw [List.getElem_replicate] at e1
   by_cases h1 : i = ds[q]
   · exact .inr (.inl ⟨q,hq',h1⟩)
   · refine .inr (.inr ⟨ds[q],j,⟨q,hq',rfl,fun h38 => ?_,e1⟩,by omega,e3⟩)
     obtain ⟨x,kc,ks,hx,hs,hk,_⟩ := e1.at_
     rw [JT hx] at h38
     cases hs with
     | chan h k n0 n1 nm => cases hk; omega
     | main h => omega
     | proc h => omega
end
end Go.Ab
end
section
namespace Go.Ab
set_option linter.unusedVariables false
structure Sp where
 n : Nat
 c : Bool
 r : Bool
abbrev S0 : Sp := ⟨0,false,true⟩
abbrev An := Ac × Sp
abbrev hd (Q : List An) (o : Sp) : Sp := match Q with | [] => o | a :: _ => a.2
structure Ev where
 nv : Int
 ch : Int → Int → Prop
 st : Int → Int → Prop
def wdN (a : Int) : Nat := if a = 3 ∨ a = 4 then 1 else if 5 ≤ a ∧ a ≤ 17 then 2 else 0
inductive Str (e : Ev) : Ac → Nat → Prop
 | push (a : Int) : Str e ⟨2,a,0⟩ 0
 | load (a : Int) (h0 : 0 ≤ a) (h1 : a < e.nv) : Str e ⟨3,a,0⟩ 0
 | app (a : Int) (h : 0 < wdN a) : Str e ⟨5,a,0⟩ (wdN a)
 | chan (a b : Int) (h : e.ch a b) : Str e ⟨9,a,b⟩ (if 0 < b then 1 else 0)
inductive Act (e : Ev) : Ac → Nat → Prop
 | store (a : Int) (h0 : 0 ≤ a) (h1 : a < e.nv) : Act e ⟨4,a,0⟩ 1
 | recv (a : Int) (h0 : 0 ≤ a) (h1 : a < e.nv) : Act e ⟨11,a,0⟩ 1
 | draw (a : Int) (h0 : 0 ≤ a) (h1 : a < e.nv) : Act e ⟨12,a,0⟩ 1
 | send : Act e ⟨10,0,0⟩ 2
 | sleep : Act e ⟨13,0,0⟩ 1
 | start (a : Int) (b : Nat) (h : e.st a b) : Act e ⟨14,a,b⟩ b
 | print : Act e ⟨15,0,0⟩ 1
 | assert : Act e ⟨16,0,0⟩ 1
 | skip : Act e ⟨17,0,0⟩ 0
inductive Chs (e : Ev) (d : Int) : Ac → Nat → Prop
 | recv (a : Int) (h0 : 0 ≤ a) (h1 : a < e.nv) : Chs e d ⟨19,a,d⟩ 1
 | send : Chs e d ⟨20,d,0⟩ 2
 | after : Chs e d ⟨21,d,0⟩ 1
 | els : Chs e d ⟨22,d,0⟩ 0
def Fw (Q : List An) (o : Sp) (d : Int) (φ : Sp → Prop) : Prop := ∃ Q1 Q2,Q = Q1 ++ Q2 ∧ d = (Q1.length : Int) + 1 ∧ φ (hd Q2 o)
inductive Ok1 (e : Ev) (P Q : List An) (o : Sp) : Ac → Sp → Prop
 | mark (a : Int) (r : Bool) (h : (hd Q o).n = 0 ∧ (hd Q o).c = false) : Ok1 e P Q o ⟨1,a,0⟩ ⟨0,false,r⟩
 | str (x : Ac) (t n : Nat) (c : Bool) (h : Str e x t) (hn : (hd Q o).n = n + 1 ∧ (hd Q o).c = c) : Ok1 e P Q o x ⟨n + t,c,false⟩
 | act (x : Ac) (t : Nat) (h : Act e x t) (hn : hd Q o = S0) : Ok1 e P Q o x ⟨t,false,false⟩
 | stop : Ok1 e P Q o ⟨18,0,0⟩ ⟨0,false,false⟩
 | choose (h : (hd Q o).n = 0 ∧ (hd Q o).c = true) : Ok1 e P Q o ⟨25,0,0⟩ ⟨0,false,false⟩
 | select : Ok1 e P Q o ⟨23,0,0⟩ ⟨0,true,false⟩
 | zero (op d : Int) (n : Nat) (c : Bool) (ho : op = 7 ∨ op = 8) (h : (hd Q o).n = n ∧ (hd Q o).c = c) (hf : Fw Q o d fun t => t.n = n ∧ t.c = c) : Ok1 e P Q o ⟨op,d,0⟩ ⟨n + 1,c,false⟩
 | jump (d : Int) (n : Nat) (c r : Bool) (hf : Fw Q o d fun t => t.n = n ∧ t.c = c ∧ (r = true → t.r = true)) : Ok1 e P Q o ⟨6,d,0⟩ ⟨n,c,r⟩
 | back (d : Int) (P1 P2 : List An) (a : An) (hp : P = P1 ++ a :: P2) (ha : a.1.Op = 1) (hd : d = -((P2.length : Int) + 1)) : Ok1 e P Q o ⟨6,d,0⟩ S0
 | chs (x : Ac) (t : Nat) (d : Int) (h : Chs e d x t) (hn : (hd Q o).n = 0 ∧ (hd Q o).c = true) (hf : Fw Q o d fun t => t = S0) : Ok1 e P Q o x ⟨t,true,false⟩
theorem JS (A B : List An) (o : Sp) : hd (A ++ B) o = hd A (hd B o) := by cases A <;> rfl
theorem Fw.emb {Q Q' : List An} {o o' : Sp} {d : Int} {φ : Sp → Prop} (h : Fw Q o d φ) (ho : hd Q' o' = o) : Fw (Q ++ Q') o' d φ := by
 obtain ⟨Q1,Q2,h1,h2,h3⟩ := h
 exact ⟨Q1,Q2 ++ Q',by rw [h1,List.append_assoc],h2,by rw [JS,ho]; exact h3⟩
theorem Ok1.emb {e : Ev} {P Q P' Q' : List An} {o o' : Sp} {x : Ac} {s : Sp} (h : Ok1 e P Q o x s) (ho : hd Q' o' = o) : Ok1 e (P' ++ P) (Q ++ Q') o' x s := by
 have e1 : hd (Q ++ Q') o' = hd Q o := by rw [JS,ho]
 cases h with
 | mark a r h => exact .mark a r (by rw [e1]; exact h)
 | str x t n c h hn => exact .str _ t n c h (by rw [e1]; exact hn)
 | act x t h hn => exact .act _ t h (by rw [e1]; exact hn)
 | stop => exact .stop
 | choose h => exact .choose (by rw [e1]; exact h)
 | select => exact .select
 | zero op d n c hop h hf => exact .zero op d n c hop (by rw [e1]; exact h) (hf.emb ho)
 | jump d n c r hf => exact .jump d n c r (hf.emb ho)
 | back d P1 P2 a hp ha hd => exact .back d (P' ++ P1) P2 a (by rw [hp,List.append_assoc]) ha hd
 | chs x t d h hn hf => exact .chs _ t d h (by rw [e1]; exact hn) (hf.emb ho)
def WF (e : Ev) : List An → List An → List An → Sp → Prop
 | _,[],_,_ => True
 | P,a :: M,Q,o => (Ok1 e P (M ++ Q) o a.1 a.2 ∧ a.2.n ≤ 100000) ∧ WF e (P ++ [a]) M Q o
theorem WF.emb {e : Ev} {P' Q' : List An} {o o' : Sp} (ho : hd Q' o' = o) : ∀ (M P Q : List An),WF e P M Q o → WF e (P' ++ P) M (Q ++ Q') o'
 | [],_,_,_ => trivial
 | a :: M,P,Q,h => by
   refine ⟨⟨?_,h.1.2⟩,?_⟩
   · have := h.1.1.emb (P' := P') ho
     rwa [List.append_assoc] at this
   · have := WF.emb (P' := P') ho M (P ++ [a]) Q h.2
     rwa [← List.append_assoc] at this
theorem WF.app {e : Ev} : ∀ (M N P Q : List An) (o : Sp),WF e P M (N ++ Q) o → WF e (P ++ M) N Q o → WF e P (M ++ N) Q o
 | [],N,P,Q,o,_,h => by simpa using h
 | a :: M,N,P,Q,o,h,h2 => by
   refine ⟨⟨?_,h.1.2⟩,?_⟩
   · have := h.1.1
     rwa [← List.append_assoc] at this
   · refine WF.app M N _ Q o h.2 ?_
     rw [List.append_assoc]
     exact h2
structure Frag (e : Ev) (M : List An) (s o : Sp) : Prop where
 wf : WF e [] M [] o
 beg : hd M o = s
theorem Frag.at {e : Ev} {M : List An} {s o : Sp} (h : Frag e M s o) (P Q : List An) (o' : Sp) (ho : hd Q o' = o) : WF e P M Q o' := by
 have := WF.emb (P' := P) ho M [] [] h.wf
 simpa using this
theorem Frag.nil (e : Ev) (s : Sp) : Frag e [] s s := ⟨trivial,rfl⟩
theorem Frag.app {e : Ev} {M N : List An} {s t o : Sp} (h : Frag e M s t) (h2 : Frag e N t o) : Frag e (M ++ N) s o :=
 ⟨WF.app M N [] [] o (h.at [] (N ++ []) o (by rw [List.append_nil]; exact h2.beg)) (h2.at ([] ++ M) [] o rfl),by rw [JS,h2.beg]; exact h.beg⟩
theorem Frag.one {e : Ev} {x : Ac} {s o : Sp} (h : Ok1 e [] [] o x s) (hn : s.n ≤ 100000) : Frag e [(x,s)] s o := ⟨⟨⟨h,hn⟩,trivial⟩,rfl⟩
def stA (M : List An) (o : Sp) (j : Nat) : Sp := hd (M.drop j) o
theorem WF.get {e : Ev} {o : Sp} : ∀ (M P Q : List An),WF e P M Q o → ∀ k (h : k < M.length),Ok1 e (P ++ M.take k) (M.drop (k + 1) ++ Q) o M[k].1 M[k].2 ∧ M[k].2.n ≤ 100000
 | [],_,_,_,k,h => by cases h
 | a :: M,P,Q,hw,0,h => by simpa using hw.1
 | a :: M,P,Q,hw,k + 1,h => by
   have := WF.get M (P ++ [a]) Q hw.2 k (by simpa using h)
   simpa using this
end Go.Ab
end
section
namespace Go.Ab
set_option linter.unusedVariables false
def tgB (op : Int) : Bool := op == 6 || (op == 7 || (op == 8 || (op == 20 || (op == 21 || op == 22))))
def absI (k : Int) (x : Ac) : Ac := if x.Op = 19 then ⟨x.Op,x.A,x.B + k⟩ else if tgB x.Op = true then ⟨x.Op,x.A + k,x.B⟩ else x
def absL : Int → List An → List Ac
 | _,[] => []
 | k,a :: M => absI k a.1 :: absL (k + 1) M
theorem absI_op (k : Int) (x : Ac) : (absI k x).Op = x.Op := by
 unfold absI; split
 · rfl
 · split <;> rfl
theorem Rb (j k : Int) (x : Ac) : absI j (absI k x) = absI (k + j) x := by
 unfold absI
 by_cases h : x.Op = 19
 · simp [h,Int.add_assoc]
 · by_cases h2 : tgB x.Op = true <;> simp [h,h2,Int.add_assoc]
theorem BK : ∀ (M : List An) (k : Int),(absL k M).length = M.length
 | [],_ => rfl
 | a :: M,k => by simp [absL,BK M]
theorem IL : ∀ (M N : List An) (k : Int),absL k (M ++ N) = absL k M ++ absL (k + M.length) N
 | [],N,k => by simp [absL]
 | a :: M,N,k => by
   simp only [List.cons_append,absL,IL M N (k + 1),List.length_cons]
   rw [show k + 1 + (M.length : Int) = k + ((M.length + 1 : Nat) : Int) by omega]
theorem Ji : ∀ (M : List An) (j k : Int),(absL k M).map (absI j) = absL (k + j) M
 | [],_,_ => rfl
 | a :: M,j,k => by
   simp only [absL,List.map_cons,Rb,Ji M j (k + 1)]
   rw [show k + 1 + j = k + j + 1 by omega]
theorem PH : ∀ (M : List An) (k : Int) (j : Nat) (h : j < M.length),(absL k M)[j]? = some (absI (k + j) (M[j].1))
 | [],_,j,h => by cases h
 | a :: M,k,0,h => by simp [absL]
 | a :: M,k,j + 1,h => by
   have := PH M (k + 1) j (by simpa using h)
   simp only [absL,List.getElem?_cons_succ,List.getElem_cons_succ,this]
   rw [show k + 1 + (j : Int) = k + ((j + 1 : Nat) : Int) by omega]
inductive OkA (e : Ev) (ins : List Ac) (f t : Int) (S : Int → Sp) (p : Int) : Ac → Sp → Prop
 | mark (a : Int) (r : Bool) (hp : p + 1 < t) (h : (S (p + 1)).n = 0 ∧ (S (p + 1)).c = false) : OkA e ins f t S p ⟨1,a,0⟩ ⟨0,false,r⟩
 | str (x : Ac) (w n : Nat) (c : Bool) (hp : p + 1 < t) (h : Str e x w) (hn : (S (p + 1)).n = n + 1 ∧ (S (p + 1)).c = c) : OkA e ins f t S p x ⟨n + w,c,false⟩
 | act (x : Ac) (w : Nat) (hp : p + 1 < t) (h : Act e x w) (hn : S (p + 1) = S0) : OkA e ins f t S p x ⟨w,false,false⟩
 | stop (hp : p + 1 < t) : OkA e ins f t S p ⟨18,0,0⟩ ⟨0,false,false⟩
 | choose (hp : p + 1 < t) (h : (S (p + 1)).n = 0 ∧ (S (p + 1)).c = true) : OkA e ins f t S p ⟨25,0,0⟩ ⟨0,false,false⟩
 | select (hp : p + 1 < t) : OkA e ins f t S p ⟨23,0,0⟩ ⟨0,true,false⟩
 | zero (op q : Int) (n : Nat) (c : Bool) (hp : p + 1 < t) (ho : op = 7 ∨ op = 8) (h : (S (p + 1)).n = n ∧ (S (p + 1)).c = c) (h1 : p < q) (h2 : q < t) (hq : (S q).n = n ∧ (S q).c = c) : OkA e ins f t S p ⟨op,q,0⟩ ⟨n + 1,c,false⟩
 | jump (q : Int) (n : Nat) (c r : Bool) (hp : p + 1 < t) (h1 : p < q) (h2 : q < t) (hq : (S q).n = n ∧ (S q).c = c ∧ (r = true → (S q).r = true)) : OkA e ins f t S p ⟨6,q,0⟩ ⟨n,c,r⟩
 | back (q : Int) (x : Ac) (hp : p + 1 < t) (h1 : f ≤ q) (h2 : q < p) (hq : lAt ins q = some x) (hx : x.Op = 1) : OkA e ins f t S p ⟨6,q,0⟩ S0
 | chs (x : Ac) (w : Nat) (q : Int) (hp : p + 1 < t) (h : Chs e q x w) (hn : (S (p + 1)).n = 0 ∧ (S (p + 1)).c = true) (h1 : p < q) (h2 : q < t) (hq : S q = S0) : OkA e ins f t S p x ⟨w,true,false⟩
 | fin (hp : p + 1 = t) : OkA e ins f t S p ⟨24,0,0⟩ S0
theorem O9 (M : List An) (o : Sp) (j : Nat) (h : M.length ≤ j) : stA M o j = o := by unfold stA; rw [List.drop_eq_nil_of_le h]
theorem SZ (M : List An) (o : Sp) (j : Nat) (h : j < M.length) : stA M o j = M[j].2 := by unfold stA; rw [List.drop_eq_getElem_cons h]
theorem Fw.get {M : List An} {o : Sp} {d : Int} {φ : Sp → Prop} {k : Nat} (hk : k < M.length) (h : Fw (M.drop (k + 1)) o d φ) : ∃ j : Nat,(j : Int) = k + d ∧ k < j ∧ j ≤ M.length ∧ φ (stA M o j) := by
 obtain ⟨Q1,Q2,h1,h2,h3⟩ := h
 have hl := congrArg List.length h1
 rw [List.length_drop,List.length_append] at hl
 refine ⟨k + 1 + Q1.length,by omega,by omega,by omega,?_⟩
 unfold stA
 rw [← List.drop_drop,h1,List.drop_left]
 exact h3
theorem Frag.okA {e : Ev} {M : List An} {s : Sp} (h : Frag e M s S0) (A B : List Ac) (f : Int) (hf : f = A.length) (t : Int) (ht : t = f + M.length + 1) (ins : List Ac) (hi : ins = A ++ (absL f M ++ (⟨24,0,0⟩ :: B))) (p : Int) (h0 : f ≤ p) (h1 : p < t) :
    ∃ x,lAt ins p = some x ∧ OkA e ins f t (fun q => stA M S0 (q - f).toNat) p x (stA M S0 (p - f).toNat) ∧ (stA M S0 (p - f).toNat).n ≤ 100000 := by
 obtain ⟨k,hk⟩ := Int.eq_ofNat_of_zero_le (show 0 ≤ p - f by omega)
 have hp : p = ((A.length + k : Nat) : Int) := by omega
 have geti : ∀ j : Nat,j < M.length → ∀ q : Int,q = f + j → ∀ h : j < M.length,lAt ins q = some (absI q M[j].1) := by
  intro j hj q hq h
  have : q = ((A.length + j : Nat) : Int) := by omega
  rw [this,lAtn,hi,List.getElem?_append_right (by omega),List.getElem?_append_left (by rw [BK]; omega),show A.length + j - A.length = j by omega,PH M f j h,← hq,this]
 have sn : (p + 1 - f).toNat = k + 1 := by omega
 have sk : (p - f).toNat = k := by omega
 rcases Nat.lt_or_ge k M.length with hkl | hkl
 · obtain ⟨ok,hN⟩ := WF.get M [] [] h.wf k hkl
   rw [sk,SZ M S0 k hkl]
   refine ⟨_,geti k hkl p (by omega) hkl,?_,hN⟩
   rw [List.nil_append,List.append_nil] at ok
   have hn : hd (M.drop (k + 1)) S0 = stA M S0 (p + 1 - f).toNat := by rw [sn]; rfl
   have hpt : p + 1 < t := by omega
   have fw : ∀ {d : Int} {φ : Sp → Prop},Fw (M.drop (k + 1)) S0 d φ → p < d + p ∧ d + p < t ∧ φ ((fun q : Int => stA M S0 (q - f).toNat) (d + p)) := by
    intro d φ hF
    obtain ⟨j,j1,j2,j3,j4⟩ := hF.get hkl
    refine ⟨by omega,by omega,?_⟩
    show φ (stA M S0 (d + p - f).toNat)
    rw [show (d + p - f).toNat = j by omega]; exact j4
   generalize M[k].1 = x at ok
   generalize M[k].2 = s at ok
   cases ok with
   | mark a r h => exact .mark a r hpt (by show _ ∧ _; rw [hn] at h; exact h)
   | str x w n c h hn' =>
     have : absI p x = x := by cases h <;> rfl
     rw [this]; exact .str x w n c hpt h (by rw [hn] at hn'; exact hn')
   | act x w h hn' =>
     have : absI p x = x := by cases h <;> rfl
     rw [this]; exact .act x w hpt h (by rw [hn] at hn'; exact hn')
   | stop => exact .stop hpt
   | choose h => exact .choose hpt (by show _ ∧ _; rw [hn] at h; exact h)
   | select => exact .select hpt
   | zero op d n c ho h hf' =>
     obtain ⟨a1,a2,a3⟩ := fw hf'
     have : absI p ⟨op,d,0⟩ = ⟨op,d + p,0⟩ := by rcases ho with rfl | rfl <;> rfl
     rw [this]; exact .zero op _ n c hpt ho (by show _ ∧ _; rw [hn] at h; exact h) a1 a2 a3
   | jump d n c r hf' =>
     obtain ⟨a1,a2,a3⟩ := fw hf'
     exact .jump _ n c r hpt a1 a2 a3
   | back d P1 P2 a hP ha hd' =>
     have hl := congrArg List.length hP
     rw [List.length_take,List.length_append,List.length_cons] at hl
     have hj : P1.length < M.length := by omega
     have hMa : M[P1.length] = a := by
      have e1 : (M.take k)[P1.length]? = some a := by rw [hP]; simp
      rw [List.getElem?_take,if_pos (by omega),List.getElem?_eq_getElem hj] at e1
      exact Option.some.inj e1
     have ea : absI p ⟨6,d,0⟩ = ⟨6,d + p,0⟩ := rfl
     rw [ea]
     rw [Nat.min_eq_left (by omega)] at hl
     exact .back _ _ hpt (by omega) (by omega) (geti P1.length hj (d + p) (by omega) hj) (by rw [absI_op,hMa]; exact ha)
   | chs x w d h hn' hf' =>
     obtain ⟨a1,a2,a3⟩ := fw hf'
     have : Chs e (d + p) (absI p x) w := by
      cases h with
      | recv a h0 h1 => exact .recv a h0 h1
      | send => exact .send
      | after => exact .after
      | els => exact .els
     exact .chs _ w (d + p) hpt this (by rw [hn] at hn'; exact hn') a1 a2 a3
 · have hkM : k = M.length := by omega
   refine ⟨⟨24,0,0⟩,?_,?_,by rw [sk,O9 M S0 k hkl]; show 0 ≤ 100000; omega⟩
   · rw [hp,lAtn,hi,List.getElem?_append_right (by omega),List.getElem?_append_right (by rw [BK]; omega),BK,show A.length + k - A.length - M.length = 0 by omega]
     rfl
   · rw [sk,O9 M S0 k hkl]
     exact .fin (by omega)
end Go.Ab
end
section
namespace Go.Ab
set_option linter.unusedVariables false
theorem SX {a : Int} (h : 0 < wdN a) : GE a = some (wdN a : Int) ∧ (0 : Int) < wdN a := by
 refine ⟨?_,by omega⟩
 unfold wdN at h ⊢
 split at h
 · rename_i h1; rw [if_pos h1]; rcases h1 with rfl | rfl <;> rfl
 · rename_i h1
   split at h
   · rename_i h2
     rw [if_neg h1,if_pos h2]
     unfold GE H5
     rw [beqf (show ¬ a = 3 by omega),beqf (show ¬ a = 4 by omega),dct h2.1,dct h2.2]
     rfl
   · omega
theorem NP {e : Ev} {x : Ac} {w : Nat} (h : Str e x w) : C3 x = some true ∧ E8 x = some (w : Int) ∧ HO x = some 1 := by
 cases h with
 | push a => exact ⟨rfl,rfl,rfl⟩
 | load a h0 h1 => exact ⟨rfl,rfl,rfl⟩
 | app a h =>
   obtain ⟨h1,h2⟩ := SX h
   have r : C3 ⟨5,a,0⟩ = some true := by
    have : C3 ⟨5,a,0⟩ = (GE a).bind fun y31 => Ge (decide (0 < y31)) := rfl
    rw [this,h1]
    show some _ = _
    rw [dct h2]
   refine ⟨r,?_,?_⟩
   · have : E8 ⟨5,a,0⟩ = (C3 ⟨5,a,0⟩).bind fun y15 => cond (!y15) (some 0) ((GE a).bind fun y19 => some y19) := rfl
     rw [this,r,h1]; rfl
   · have : HO ⟨5,a,0⟩ = (C3 ⟨5,a,0⟩).bind fun y16 => cond y16 (some 1) (some 0) := rfl
     rw [this,r]; rfl
 | chan a b h =>
   refine ⟨rfl,?_,rfl⟩
   have : E8 ⟨9,a,b⟩ = cond (decide (0 < b)) (some 1) (some 0) := by
    have : E8 ⟨9,a,b⟩ = cond (decide (0 < b)) (HJ ⟨9,a,b⟩ (⟨⟨#[99,104,97,110]⟩,2,0,1⟩,true) true) (HJ ⟨9,a,b⟩ (⟨⟨#[99,104,97,110]⟩,2,0,1⟩,true) false) := by
     by_cases h : 0 < b
     · have d := dct h
       show (cond (decide (0 < b)) _ _) = _
       rw [d]; rfl
     · have d := dcf h
       show (cond (decide (0 < b)) _ _) = _
       rw [d]; rfl
    rw [this]; rfl
   rw [this]
   by_cases h : 0 < b
   · rw [dct h,if_pos h]; rfl
   · rw [dcf h,if_neg h]; rfl
theorem Oh {e : Ev} {x : Ac} {w : Nat} (h : Act e x w) : C3 x = some true ∧ E8 x = some (w : Int) ∧ HO x = some 0 := by
 cases h with
 | start a _ h =>
   have r : C3 ⟨14,a,w⟩ = some true := by
    have : C3 ⟨14,a,w⟩ = cond (decide (0 ≤ (w : Int))) (some true) (some false) := rfl
    rw [this,dct (show (0 : Int) ≤ w by omega)]; rfl
   refine ⟨r,?_,?_⟩
   · have : E8 ⟨14,a,w⟩ = (C3 ⟨14,a,w⟩).bind fun y15 => cond (!y15) (some 0) (some (w : Int)) := rfl
     rw [this,r]; rfl
   · have : HO ⟨14,a,w⟩ = (C3 ⟨14,a,w⟩).bind fun y16 => cond y16 (some 0) (some 0) := rfl
     rw [this,r]; rfl
 | _ => exact ⟨rfl,rfl,rfl⟩
theorem Mx {e : Ev} {d : Int} {x : Ac} {w : Nat} (h : Chs e d x w) : C3 x = some true ∧ E8 x = some (w : Int) ∧ HO x = some 0 ∧ DH x = some (d,true) ∧ DI x.Op = some true ∧ Ii x.Op = some false := by
 cases h <;> exact ⟨rfl,rfl,rfl,rfl,rfl,rfl⟩
theorem Qz {e : Ev} {ins : List Ac} {f t : Int} {S : Int → Sp} {p : Int} {x : Ac} {s : Sp} (h : OkA e ins f t S p x s) : C3 x = some true ∧ ((x.Op == 24) = (p == t - 1)) := by
 cases h with
 | str x w n c hp h hn => exact ⟨(NP h).1,by cases h <;> exact (beqf (by omega)).symm⟩
 | act x w hp h hn => exact ⟨(Oh h).1,by cases h <;> exact (beqf (by omega)).symm⟩
 | chs x w q hp h hn h1 h2 hq => exact ⟨(Mx h).1,by cases h <;> exact (beqf (by omega)).symm⟩
 | zero op q n c hp ho h h1 h2 hq => exact ⟨by rcases ho with rfl | rfl <;> rfl,by rcases ho with rfl | rfl <;> exact (beqf (by omega)).symm⟩
 | fin hp => exact ⟨rfl,(beqt (by omega)).symm⟩
 | _ => exact ⟨rfl,(beqf (by omega)).symm⟩
structure Rt (e : Ev) (c : Au) (f t : Int) (S : Int → Sp) : Prop where
 small : c.Ins.length ≤ 100000
 f0 : 0 ≤ f
 ft : f < t
 tl : t ≤ c.Ins.length
 ok : ∀ p,f ≤ p → p < t → ∃ x,lAt c.Ins p = some x ∧ OkA e c.Ins f t S p x (S p) ∧ (S p).n ≤ 100000
 beg : S f = S0
 first : ∀ x,lAt c.Ins f = some x → x.Op = 1 ∨ x.Op = 24
theorem rest_cases {e : Ev} {ins : List Ac} {f t : Int} {S : Int → Sp} {p : Int} {x : Ac} {s : Sp} (h : OkA e ins f t S p x s) (hr : s.r = true) : x.Op = 1 ∨ x.Op = 24 ∨ (x.Op = 6 ∧ ((p < x.A ∧ x.A < t ∧ (S x.A).r = true) ∨ (f ≤ x.A ∧ x.A < p ∧ ∃ y,lAt ins x.A = some y ∧ y.Op = 1))) := by
 cases h with
 | mark a r hp h => exact .inl rfl
 | jump q n c r hp h1 h2 hq => exact .inr (.inr ⟨rfl,.inl ⟨h1,h2,hq.2.2 hr⟩⟩)
 | back q y hp h1 h2 hq hx => exact .inr (.inr ⟨rfl,.inr ⟨h1,h2,y,hq,hx⟩⟩)
 | fin hp => exact .inr (.inl rfl)
 | _ => cases hr
theorem settle_loop {e : Ev} {c : Au} {f t : Int} {S : Int → Sp} (h : Rt e c f t S) (a : Int) : ∀ (n : Nat) (p i : Int),f ≤ p → p < t → (t - p).toNat ≤ n → 0 ≤ i → i + (t - p) ≤ c.Ins.length → (S p).r = true →
    ∃ z y,Loop (fun s : (Int × Int) => Ey c a s.1 s.2) (p,i) = some z ∧ f ≤ z ∧ z < t ∧ lAt c.Ins z = some y ∧ (y.Op = 1 ∨ y.Op = 24)
 | 0,p,i,h0,h1,hn,_,_,_ => by omega
 | n + 1,p,i,h0,h1,hn,hi,hb,hr => by
   have hs := h.small; have hf0 := h.f0; have htl := h.tl
   obtain ⟨x,hx,ok,_⟩ := h.ok p h0 h1
   have stop : ∀ (q j : Int) (y : Ac),f ≤ q → q < t → 0 ≤ j → j ≤ c.Ins.length → lAt c.Ins q = some y → (y.Op = 1 ∨ y.Op = 24) → Loop (fun s : (Int × Int) => Ey c a s.1 s.2) (q,j) = some q := by
    intro q j y q0 q1 j0 j1 hy ho
    refine Loop_inr ?_
    show Ey c a q j = _
    unfold Ey
    rw [w64i (by omega) (by omega),dct (show j < (c.Ins.length : Int) + 1 by omega),dcf (show ¬ q < 0 by omega),dcf (show ¬ (c.Ins.length : Int) ≤ q by omega),hy]
    show Fa c q j (y.Op != 6) = _
    rw [show (y.Op != 6) = true by rcases ho with h | h <;> rw [h] <;> rfl]
    rfl
   have go : x.Op = 6 → Ey c a p i = some (.inl (x.A,i + 1)) := by
    intro ho
    unfold Ey
    rw [w64i (by omega) (by omega),dct (show i < (c.Ins.length : Int) + 1 by omega),dcf (show ¬ p < 0 by omega),dcf (show ¬ (c.Ins.length : Int) ≤ p by omega),hx]
    show Fa c p i (x.Op != 6) = _
    rw [ho]
    unfold Fa
    rw [hx]
    show some (Sum.inl (x.A,w64 (i + 1))) = _
    rw [w64i (by omega) (by omega)]
   rcases rest_cases ok hr with h2 | h2 | ⟨h2,⟨h3,h4,h5⟩ | ⟨h3,h4,y,h5,h6⟩⟩
   · exact ⟨p,x,stop p i x h0 h1 hi (by omega) hx (.inl h2),h0,h1,hx,.inl h2⟩
   · exact ⟨p,x,stop p i x h0 h1 hi (by omega) hx (.inr h2),h0,h1,hx,.inr h2⟩
   · obtain ⟨z,y,e1,e2⟩ := settle_loop h a n x.A (i + 1) (by omega) h4 (by omega) (by omega) (by omega) h5
     exact ⟨z,y,by rw [Loop_inl (go h2)]; exact e1,e2⟩
   · exact ⟨x.A,y,by rw [Loop_inl (go h2)]; exact stop _ _ y h3 (by omega) (by omega) (by omega) h5 (.inl h6),h3,by omega,h5,.inl h6⟩
theorem rests_ok {e : Ev} {c : Au} {f t : Int} {S : Int → Sp} (h : Rt e c f t S) (m v p : Int) (h0 : f ≤ p) (h1 : p < t) (hr : (S p).r = true) : Bj p ⟨c,m,f,t,v⟩ = some true := by
 have htl := h.tl
 obtain ⟨z,y,e1,e2,e3,e4,e5⟩ := settle_loop h p (t - p).toNat p 0 h0 h1 (by omega) (by omega) (by have := h.f0; omega) hr
 unfold Bj
 rw [show IM c p = some z from e1]
 show cond (decide (f ≤ z)) _ _ = _
 rw [dct e2,dct e3]
 show ((lAt c.Ins z).bind _) = _
 rw [e4]
 show cond (y.Op == 1) _ _ = _
 rcases e5 with h | h
 · rw [h]; rfl
 · rw [beqf (by omega)]
   show some (y.Op == 24) = _
   rw [h]; rfl
end Go.Ab
end
section
namespace Go.Ab
set_option linter.unusedVariables false
structure EvOK (e : Ev) (c : Au) : Prop where
 ch : ∀ x : Ac,e.ch x.A x.B → AI c.Chans x = some true
 st : ∀ a b,e.st a b → 0 ≤ a ∧ a < c.Defs.length ∧ ∃ d,lAt c.Defs a = some d ∧ b = d.Params
section
variable {e : Ev} {c : Au} {f t : Int} {S : Int → Sp} (h : Rt e c f t S) (he : EvOK e c) (m p : Int)
theorem Ra (q : Int) (h0 : f ≤ p) (h1 : p < q) (h2 : q < t) (v : Int) : BS p q ⟨c,m,f,t,v⟩ = some true := by
 unfold BS
 show cond (decide (f ≤ q)) (cond (decide (q < t)) (cond (decide (p < q)) _ _) _) _ = _
 rw [dct (by omega),dct h2,dct h1]; rfl
theorem Ty (q : Int) (h0 : f ≤ q) (h1 : q < p) (h2 : p < t) (v : Int) (x : Ac) (hq : lAt c.Ins q = some x) (hx : x.Op = 1) : BS p q ⟨c,m,f,t,v⟩ = some true := by
 unfold BS
 show cond (decide (f ≤ q)) (cond (decide (q < t)) (cond (decide (p < q)) _ ((lAt c.Ins q).bind _)) _) _ = _
 rw [dct h0,dct (by omega),dcf (by omega),hq]
 show some (x.Op == 1) = _
 rw [hx]; rfl
include h he in
theorem Td (x : Ac) (h0 : f ≤ p) (h1 : p < t) (hx : lAt c.Ins p = some x) (ok : OkA e c.Ins f t S p x (S p)) (hm : x.Op = 1 → x.A = m) : Eo p ⟨c,m,f,t,e.nv⟩ = some true := by
 have hs := h.small; have htl := h.tl; have hf0 := h.f0
 have rst : p + 1 < t → (S (p + 1)).r = true → Bj (w64 (p + 1)) ⟨c,m,f,t,e.nv⟩ = some true := by
  intro hp hr
  rw [w64i (by omega) (by omega)]
  exact rests_ok h m e.nv (p + 1) (by omega) hp hr
 have j1 : BI p ⟨c,m,f,t,e.nv⟩ x false = some true := by
  generalize hsp : S p = s at ok
  cases ok with
  | mark a r hp h =>
    show AE p ⟨c,m,f,t,e.nv⟩ ⟨1,a,0⟩ (a == m) = _
    rw [beqt (show a = m from hm rfl)]; rfl
  | str x w n c' hp hstr hn =>
    cases hstr with
    | push a => rfl
    | load a ha hb =>
      show cond (decide (0 ≤ a)) (AE p _ ⟨3,a,0⟩ (decide (a < e.nv))) _ = _
      rw [dct ha,dct hb]; rfl
    | app a ha => rfl
    | chan a b hc =>
      show ((AI c.Chans ⟨9,a,b⟩).bind fun y89 => AE p _ ⟨9,a,b⟩ y89) = _
      rw [he.ch ⟨9,a,b⟩ hc]; rfl
  | act x w hp hact hn =>
    have hr := rst hp (by rw [hn])
    have tail : ∀ y : Ac,DH y = some (0,false) → Ii y.Op = some true → DI y.Op = some false → AE p ⟨c,m,f,t,e.nv⟩ y true = some true := by
     intro y a1 a2 a3
     unfold AE
     rw [a1]
     show Bw p _ y (0,false) false = _
     unfold Bw
     rw [a2]
     show ((Bj (w64 (p + 1)) _).bind _) = _
     rw [hr]
     show ((DI y.Op).bind _) = _
     rw [a3]; rfl
    cases hact with
    | store a ha hb =>
      show cond (decide (0 ≤ a)) (AE p _ ⟨4,a,0⟩ (decide (a < e.nv))) _ = _
      rw [dct ha,dct hb]; exact tail ⟨_,a,_⟩ rfl rfl rfl
    | recv a ha hb =>
      show cond (decide (0 ≤ a)) (AE p _ ⟨11,a,0⟩ (decide (a < e.nv))) _ = _
      rw [dct ha,dct hb]; exact tail ⟨_,a,_⟩ rfl rfl rfl
    | draw a ha hb =>
      show cond (decide (0 ≤ a)) (AE p _ ⟨12,a,0⟩ (decide (a < e.nv))) _ = _
      rw [dct ha,dct hb]; exact tail ⟨_,a,_⟩ rfl rfl rfl
    | start a _ hst =>
      obtain ⟨s0,s1,d,s2,s3⟩ := he.st _ _ hst
      show cond (decide (0 ≤ a)) (cond (decide (a < (c.Defs.length : Int))) ((lAt c.Defs a).bind fun y93 => AE p _ ⟨14,a,w⟩ ((w : Int) == y93.Params)) _) _ = _
      rw [dct s0,dct s1,s2]
      show AE p _ ⟨14,a,w⟩ ((w : Int) == d.Params) = _
      rw [beqt s3]; exact tail ⟨14,a,w⟩ rfl rfl rfl
    | send => exact tail ⟨10,0,0⟩ rfl rfl rfl
    | sleep => exact tail ⟨13,0,0⟩ rfl rfl rfl
    | print => exact tail ⟨15,0,0⟩ rfl rfl rfl
    | assert => exact tail ⟨16,0,0⟩ rfl rfl rfl
    | skip => exact tail ⟨17,0,0⟩ rfl rfl rfl
  | stop hp => rfl
  | choose hp h => rfl
  | select hp => rfl
  | zero op q n c' hp ho hn h1 h2 hq =>
    have : BI p ⟨c,m,f,t,e.nv⟩ ⟨op,q,0⟩ false = (BS p q ⟨c,m,f,t,e.nv⟩).bind fun y79 => Bw p ⟨c,m,f,t,e.nv⟩ ⟨op,q,0⟩ (q,true) (!y79) := by rcases ho with rfl | rfl <;> rfl
    rw [this,Ra m p q h0 h1 h2]
    rcases ho with rfl | rfl <;> rfl
  | jump q n c' r hp h1 h2 hq =>
    show ((BS p q ⟨c,m,f,t,e.nv⟩).bind fun y79 => Bw p ⟨c,m,f,t,e.nv⟩ ⟨6,q,0⟩ (q,true) (!y79)) = _
    rw [Ra m p q h0 h1 h2]; rfl
  | back q y hp h1 h2 hq hy =>
    show ((BS p q ⟨c,m,f,t,e.nv⟩).bind fun y79 => Bw p ⟨c,m,f,t,e.nv⟩ ⟨6,q,0⟩ (q,true) (!y79)) = _
    rw [Ty m p q h1 h2 (by omega) e.nv y hq hy]; rfl
  | chs x w q hp hc hn h1 h2 hq =>
    have rq : Bj q ⟨c,m,f,t,e.nv⟩ = some true := rests_ok h m e.nv q (by omega) h2 (by rw [hq])
    have tail : ∀ y : Ac,DH y = some (q,true) → Ii y.Op = some false → DI y.Op = some true → AE p ⟨c,m,f,t,e.nv⟩ y true = some true := by
     intro y a1 a2 a3
     unfold AE
     rw [a1]
     show ((BS p q _).bind _) = _
     rw [Ra m p q h0 h1 h2]
     show Bw p _ y (q,true) false = _
     unfold Bw
     rw [a2]
     show ((DI y.Op).bind _) = _
     rw [a3]
     show ((Bj q _).bind _) = _
     rw [rq]; rfl
    cases hc with
    | recv a ha hb =>
      show cond (decide (0 ≤ a)) (AE p _ ⟨19,a,q⟩ (decide (a < e.nv))) _ = _
      rw [dct ha,dct hb]; exact tail ⟨_,a,_⟩ rfl rfl rfl
    | send => exact tail ⟨20,q,0⟩ rfl rfl rfl
    | after => exact tail ⟨21,q,0⟩ rfl rfl rfl
    | els => exact tail ⟨22,q,0⟩ rfl rfl rfl
  | fin hp => rfl
 obtain ⟨r1,r2⟩ := Qz ok
 unfold Eo
 show ((lAt c.Ins p).bind _) = _
 rw [hx]
 show ((C3 x).bind _) = _
 rw [r1]
 show cond (!((x.Op == 24) == (p == w64 (t - 1)))) _ _ = _
 rw [w64i (by omega) (by omega),r2,show (!((p == t - 1) == (p == t - 1))) = false by simp]
 show cond (p == f) (cond (x.Op != 1) (BI p _ x (x.Op != 24)) _) _ = _
 by_cases hpf : p = f
 · rw [beqt hpf]
   show cond (x.Op != 1) (BI p _ x (x.Op != 24)) _ = _
   rcases h.first x (by rw [← hpf]; exact hx) with h | h
   · rw [show (x.Op != 1) = false by rw [h]; rfl]; exact j1
   · rw [show (x.Op != 1) = true by rw [h]; rfl,show (x.Op != 24) = false by rw [h]; rfl]; exact j1
 · rw [beqf hpf]; exact j1
end
end Go.Ab
end
section
namespace Go.Ab
set_option linter.unusedVariables false
theorem Rx {α : Type} (l : List (Int × α)) (k q : Int) (x : α) : mGet (mPut l k x) q = if q = k then some x else mGet l q := by
 induction l with
 | nil =>
   simp only [mPut,mGet,beq_iff_eq]
 | cons p l ih =>
   simp only [mPut]
   by_cases h : k = p.1
   · rw [if_pos (beqt h)]
     simp only [mGet,beq_iff_eq]
     by_cases h2 : q = k
     · rw [if_pos (h2.trans h),if_pos h2]
     · rw [if_neg (fun e => h2 (e.trans h.symm)),if_neg h2,if_neg (fun e => h2 (e.trans h.symm))]
   · rw [if_neg (by rw [beqf h]; decide)]
     simp only [mGet,beq_iff_eq]
     by_cases h2 : q = p.1
     · rw [if_pos h2,if_neg (fun e => h (e.symm.trans h2)),if_pos h2]
     · rw [if_neg h2,if_neg h2,ih]
abbrev stS (s : Sp) : Aj := ⟨(s.n : Int),s.c⟩
def Kn (S : Int → Sp) (t p : Int) (kn : List (Int × Aj)) : Prop := ∀ q,p ≤ q → q < t → ∀ y,mGet kn q = some y → y = stS (S q)
theorem Kn.up {S : Int → Sp} {t p p' : Int} {kn : List (Int × Aj)} (h : Kn S t p kn) (hp : p ≤ p') : Kn S t p' kn := fun q a b => h q (by omega) b
theorem Tr (n : Int) (c : Bool) : ((n == n) && ((c == c) && true)) = true := by simp
theorem Mj {S : Int → Sp} {t p : Int} {kn : List (Int × Aj)} (h : Kn S t (p + 1) kn) (q : Int) (now : Aj) (hq : q < t) (hn : (q ≤ p ∧ now = ⟨0,false⟩) ∨ (p < q ∧ now = stS (S q))) :
    ∃ kn',Bl q now p true kn = some (true,kn') ∧ Kn S t (p + 1) kn' := by
 unfold Bl Let
 rcases hn with ⟨h1,rfl⟩ | ⟨h1,rfl⟩
 · rw [dct h1]
   exact ⟨kn,rfl,h⟩
 · rw [dcf (show ¬ q ≤ p by omega)]
   cases hg : mGet kn q with
   | some y =>
     have := h q (by omega) hq y hg
     subst this
     refine ⟨kn,?_,h⟩
     show some (((stS (S q)).n == (stS (S q)).n) && (((stS (S q)).choose == (stS (S q)).choose) && true),kn) = _
     rw [Tr]
   | none =>
     refine ⟨_,rfl,fun q' a b y hy => ?_⟩
     rw [Rx] at hy
     by_cases e : q' = q
     · rw [if_pos e] at hy
       cases hy
       rw [e]
     · rw [if_neg e] at hy
       exact h q' a b y hy
theorem fits_s {e : Ev} {x : Ac} {w : Nat} (h : Str e x w) (n : Nat) (c : Bool) (hn : n + w ≤ 100000) : CY x ⟨((n + w : Nat) : Int),c⟩ = some (⟨((n + 1 : Nat) : Int),c⟩,true) := by
 have e1 : ∀ t,CY x t = (E8 x).bind fun y2 => A8 x t y2 (decide (0 ≤ w64 (t.n - y2))) t.choose := by cases h <;> exact fun t => rfl
 obtain ⟨_,f2,f3⟩ := NP h
 rw [e1,f2]
 show A8 x _ w (decide (0 ≤ w64 (((n + w : Nat) : Int) - w))) c = _
 unfold A8
 rw [f3]
 show some ((⟨w64 (w64 (((n + w : Nat) : Int) - w) + 1),c⟩ : Aj),decide (0 ≤ w64 (((n + w : Nat) : Int) - w))) = _
 rw [w64i (n := ((n + w : Nat) : Int) - w) (by omega) (by omega),w64i (n := ((n + w : Nat) : Int) - w + 1) (by omega) (by omega),dct (by omega)]
 congr 3
 omega
theorem Tp {e : Ev} {x : Ac} {w : Nat} (h : Act e x w) (hn : w ≤ 100000) : CY x ⟨(w : Int),false⟩ = some (⟨0,false⟩,true) := by
 have e1 : ∀ t,CY x t = (E8 x).bind fun y2 => cond (w64 (t.n - y2) == 0) (A8 x t y2 (!t.choose) t.choose) (A8 x t y2 false t.choose) := by cases h <;> exact fun t => rfl
 obtain ⟨_,f2,f3⟩ := Oh h
 rw [e1,f2]
 show cond (w64 ((w : Int) - w) == 0) (A8 x ⟨(w : Int),false⟩ w true false) _ = _
 rw [w64i (by omega) (by omega),beqt (by omega)]
 show A8 x ⟨(w : Int),false⟩ w true false = _
 unfold A8
 rw [f3]
 show some ((⟨w64 (w64 ((w : Int) - w) + 0),false⟩ : Aj),true) = _
 rw [w64i (n := (w : Int) - w) (by omega) (by omega),w64i (n := (w : Int) - w + 0) (by omega) (by omega)]
 congr 3
 omega
theorem To {e : Ev} {d : Int} {x : Ac} {w : Nat} (h : Chs e d x w) (hn : w ≤ 100000) : CY x ⟨(w : Int),true⟩ = some (⟨0,true⟩,true) := by
 have e1 : ∀ t,CY x t = (E8 x).bind fun y2 => cond (w64 (t.n - y2) == 0) (A8 x t y2 t.choose t.choose) (A8 x t y2 false t.choose) := by cases h <;> exact fun t => rfl
 obtain ⟨_,f2,f3,_⟩ := Mx h
 rw [e1,f2]
 show cond (w64 ((w : Int) - w) == 0) (A8 x ⟨(w : Int),true⟩ w true true) _ = _
 rw [w64i (by omega) (by omega),beqt (by omega)]
 show A8 x ⟨(w : Int),true⟩ w true true = _
 unfold A8
 rw [f3]
 show some ((⟨w64 (w64 ((w : Int) - w) + 0),true⟩ : Aj),true) = _
 rw [w64i (n := (w : Int) - w) (by omega) (by omega),w64i (n := (w : Int) - w + 0) (by omega) (by omega)]
 congr 3
 omega
theorem Tn (op q : Int) (n : Nat) (c : Bool) (ho : op = 7 ∨ op = 8) (hn : n + 1 ≤ 100000) : CY ⟨op,q,0⟩ ⟨((n + 1 : Nat) : Int),c⟩ = some (⟨(n : Int),c⟩,true) := by
 have e1 : CY ⟨op,q,0⟩ ⟨((n + 1 : Nat) : Int),c⟩ = some (⟨w64 (w64 (((n + 1 : Nat) : Int) - 1) + 0),c⟩,decide (0 ≤ w64 (((n + 1 : Nat) : Int) - 1))) := by rcases ho with rfl | rfl <;> rfl
 rw [e1,w64i (n := ((n + 1 : Nat) : Int) - 1) (by omega) (by omega),w64i (n := ((n + 1 : Nat) : Int) - 1 + 0) (by omega) (by omega),dct (by omega)]
 congr 3
 omega
theorem Sd (q : Int) (n : Nat) (c : Bool) (hn : n ≤ 100000) : CY ⟨6,q,0⟩ ⟨(n : Int),c⟩ = some (⟨(n : Int),c⟩,true) := by
 have e1 : CY ⟨6,q,0⟩ ⟨(n : Int),c⟩ = some (⟨w64 (w64 ((n : Int) - 0) + 0),c⟩,decide (0 ≤ w64 ((n : Int) - 0))) := rfl
 rw [e1,w64i (n := (n : Int) - 0) (by omega) (by omega),w64i (n := (n : Int) - 0 + 0) (by omega) (by omega),dct (by omega)]
 congr 3
section
variable {e : Ev} {c : Au} {f t : Int} {S : Int → Sp}
theorem tail_go (p : Int) (x : Ac) (nx : Aj) (kn : List (Int × Aj)) (hk : Kn S t (p + 1) kn) (hx : x.Op ≠ 6 ∧ x.Op ≠ 18 ∧ x.Op ≠ 23 ∧ x.Op ≠ 24) (hp : p + 1 < t) (hn : nx = stS (S (p + 1))) (hw : w64 (p + 1) = p + 1) :
    ∃ kn',Bn p x (nx,true) kn true = some (.inl (kn',p + 1)) ∧ Kn S t (p + 1) kn' := by
 obtain ⟨kn',m1,m2⟩ := Mj hk (p + 1) nx hp (.inr ⟨by omega,hn⟩)
 refine ⟨kn',?_,m2⟩
 have b : ∀ k : Int,x.Op ≠ k → (x.Op != k) = true := fun k h => by simpa using h
 unfold Bn
 rw [b 6 hx.1,b 18 hx.2.1,b 23 hx.2.2.1,b 24 hx.2.2.2]
 show Cf p (nx,true) kn true true = _
 unfold Cf
 rw [hw]
 show ((Bl (p + 1) nx p true kn).bind _) = _
 rw [m1]
 show some (Sum.inl (kn',w64 (p + 1))) = _
 rw [hw]
theorem K8 (p : Int) (x : Ac) (nx : Aj) (kn : List (Int × Aj)) (hx : x.Op = 6 ∨ x.Op = 18 ∨ x.Op = 23 ∨ x.Op = 24) (hw : w64 (p + 1) = p + 1) :
    Bn p x (nx,true) kn true = some (.inl (kn,p + 1)) := by
 rw [← hw]
 unfold Bn
 rcases hx with h | h | h | h <;> rw [h] <;> rfl
theorem step_ok (h : Rt e c f t S) (m v p : Int) (kn : List (Int × Aj)) (hk : Kn S t p kn) (h0 : f ≤ p) (h1 : p < t) :
    ∃ kn',BD ⟨c,m,f,t,v⟩ kn p = some (.inl (kn',p + 1)) ∧ Kn S t (p + 1) kn' := by
 have hs := h.small; have htl := h.tl; have hf0 := h.f0
 have hw : w64 (p + 1) = p + 1 := w64i (by omega) (by omega)
 obtain ⟨x,hx,ok,hN⟩ := h.ok p h0 h1
 have hk1 : Kn S t (p + 1) kn := hk.up (by omega)
 have st : BD ⟨c,m,f,t,v⟩ kn p = FX kn p (mGet kn p) x (cond (mGet kn p).isSome false (x.Op != 1)) := by
  unfold BD Let
  show cond (decide (p < t)) ((lAt c.Ins p).bind _) _ = _
  rw [dct h1,hx]
  show cond (!(mGet kn p).isSome) _ _ = _
  cases mGet kn p <;> rfl
 rw [st]
 by_cases hskip : cond (mGet kn p).isSome false (x.Op != 1) = true
 · rw [hskip]
   refine ⟨kn,?_,hk1⟩
   show some (Sum.inl (kn,w64 (p + 1))) = _
   rw [hw]
 · rw [Bool.not_eq_true] at hskip
   rw [hskip]
   have hst : (mGet kn p).getD (⟨0,false⟩ : Aj) = stS (S p) := by
    cases hg : mGet kn p with
    | some y => exact hk p (by omega) h1 y hg
    | none =>
      rw [hg] at hskip
      have ho : x.Op = 1 := by simpa using hskip
      generalize S p = s at ok
      cases ok with
      | mark a r hp h => rfl
      | str x w n c' hp hstr hn => cases hstr <;> cases ho
      | act x w hp hact hn => cases hact <;> cases ho
      | chs x w q hp hc hn h1 h2 hq => cases hc <;> cases ho
      | zero op q n c' hp ho' hn h1 h2 hq => rcases ho' with rfl | rfl <;> cases ho
      | _ => cases ho
   show ∃ kn',((CY x ((mGet kn p).getD (⟨0,false⟩ : Aj))).bind _) = _ ∧ _
   rw [hst]
   show ∃ kn',((CY x (stS (S p))).bind fun y220 => (DH x).bind fun y262 => cond y262.2 (Bm kn p x y220 y262 y220.2) (Bm kn p x y220 y262 false)) = _ ∧ _
   have notgt : ∀ (nx : Aj) (s : Aj),CY x s = some (nx,true) → DH x = some (0,false) → ((CY x s).bind fun y220 => (DH x).bind fun y262 => cond y262.2 (Bm kn p x y220 y262 y220.2) (Bm kn p x y220 y262 false)) = Bn p x (nx,true) kn true := by
    intro nx s a1 a2; rw [a1,a2]; rfl
   have tgt : ∀ (nx : Aj) (s : Aj) (q : Int) (b : Bool) (kn' : List (Int × Aj)),CY x s = some (nx,true) → DH x = some (q,true) → DI x.Op = some b → Bl q (cond b ⟨0,false⟩ nx) p true kn = some (true,kn') →
       ((CY x s).bind fun y220 => (DH x).bind fun y262 => cond y262.2 (Bm kn p x y220 y262 y220.2) (Bm kn p x y220 y262 false)) = Bn p x (nx,true) kn' true := by
    intro nx s q b kn' a1 a2 a3 a4
    rw [a1,a2]
    show Bm kn p x (nx,true) (q,true) true = _
    unfold Bm
    rw [a3]
    cases b with
    | true => show ((Bl q ⟨0,false⟩ p true kn).bind _) = _; rw [show Bl q ⟨0,false⟩ p true kn = _ from a4]; rfl
    | false => show ((Bl q nx p true kn).bind _) = _; rw [show Bl q nx p true kn = _ from a4]; rfl
   generalize hsp : S p = s at ok hN
   cases ok with
   | mark a r hp hh =>
     rw [notgt ⟨0,false⟩ _ rfl rfl]
     exact tail_go p ⟨1,a,0⟩ _ kn hk1 ⟨by simp,by simp,by simp,by simp⟩ hp (by unfold stS; rw [hh.1,hh.2]; rfl) hw
   | str x w n c' hp hstr hn =>
     rw [notgt _ _ (fits_s hstr n c' hN) (by cases hstr <;> rfl)]
     exact tail_go p x _ kn hk1 (by cases hstr <;> exact ⟨by simp,by simp,by simp,by simp⟩) hp (by unfold stS; rw [hn.1,hn.2]) hw
   | act x w hp hact hn =>
     rw [notgt _ _ (Tp hact hN) (by cases hact <;> rfl)]
     exact tail_go p x _ kn hk1 (by cases hact <;> exact ⟨by simp,by simp,by simp,by simp⟩) hp (by rw [hn]; rfl) hw
   | stop hp =>
     rw [notgt ⟨0,false⟩ _ rfl rfl]
     exact ⟨kn,K8 p ⟨18,0,0⟩ _ kn (.inr (.inl rfl)) hw,hk1⟩
   | choose hp hh =>
     rw [notgt ⟨0,true⟩ _ rfl rfl]
     exact tail_go p ⟨25,0,0⟩ _ kn hk1 ⟨by simp,by simp,by simp,by simp⟩ hp (by unfold stS; rw [hh.1,hh.2]; rfl) hw
   | select hp =>
     rw [notgt ⟨0,true⟩ _ rfl rfl]
     exact ⟨kn,K8 p ⟨23,0,0⟩ _ kn (.inr (.inr (.inl rfl))) hw,hk1⟩
   | zero op q n c' hp ho hn h1 h2 hq =>
     obtain ⟨kn',m1,m2⟩ := Mj hk1 q ⟨(n : Int),c'⟩ h2 (.inr ⟨h1,by unfold stS; rw [hq.1,hq.2]⟩)
     rw [tgt _ _ q false kn' (Tn op q n c' ho hN) (by rcases ho with rfl | rfl <;> rfl) (by rcases ho with rfl | rfl <;> rfl) m1]
     exact tail_go p ⟨op,q,0⟩ _ kn' m2 (by rcases ho with rfl | rfl <;> exact ⟨by simp,by simp,by simp,by simp⟩) hp (by unfold stS; rw [hn.1,hn.2]) hw
   | jump q n c' r hp h1 h2 hq =>
     obtain ⟨kn',m1,m2⟩ := Mj hk1 q ⟨(n : Int),c'⟩ h2 (.inr ⟨h1,by unfold stS; rw [hq.1,hq.2.1]⟩)
     rw [tgt _ _ q false kn' (Sd q n c' hN) rfl rfl m1]
     exact ⟨kn',K8 p ⟨6,q,0⟩ _ kn' (.inl rfl) hw,m2⟩
   | back q y hp h1 h2 hq hy =>
     obtain ⟨kn',m1,m2⟩ := Mj hk1 q ⟨((0 : Nat) : Int),false⟩ (by omega) (.inl ⟨by omega,rfl⟩)
     rw [tgt _ _ q false kn' (Sd q 0 false hN) rfl rfl m1]
     exact ⟨kn',K8 p ⟨6,q,0⟩ _ kn' (.inl rfl) hw,m2⟩
   | chs x w q hp hc hn h1 h2 hq =>
     obtain ⟨kn',m1,m2⟩ := Mj hk1 q ⟨0,false⟩ h2 (.inr ⟨h1,by rw [hq]; rfl⟩)
     obtain ⟨_,_,_,g1,g2,_⟩ := Mx hc
     rw [tgt _ _ q true kn' (To hc hN) g1 g2 m1]
     exact tail_go p x _ kn' m2 (by cases hc <;> exact ⟨by simp,by simp,by simp,by simp⟩) hp (by unfold stS; rw [hn.1,hn.2]; rfl) hw
   | fin hp =>
     rw [notgt ⟨0,false⟩ _ rfl rfl]
     exact ⟨kn,K8 p ⟨24,0,0⟩ _ kn (.inr (.inr (.inr rfl))) hw,hk1⟩
theorem SP (h : Rt e c f t S) (m v : Int) : EV ⟨c,m,f,t,v⟩ = some (0,true) := by
 have key : ∀ (n : Nat) (p : Int) (kn : List (Int × Aj)),f ≤ p → p ≤ t → (t - p).toNat ≤ n → Kn S t p kn → Loop (fun s : ((List (Int × Aj)) × Int) => BD ⟨c,m,f,t,v⟩ s.1 s.2) (kn,p) = some (0,true) := by
  intro n
  induction n with
  | zero =>
    intro p kn h0 h1 hn hk
    refine Loop_inr ?_
    show BD ⟨c,m,f,t,v⟩ kn p = _
    unfold BD
    show cond (decide (p < t)) _ _ = _
    rw [dcf (by omega)]; rfl
  | succ n ih =>
    intro p kn h0 h1 hn hk
    by_cases hp : p < t
    · obtain ⟨kn',e1,e2⟩ := step_ok h m v p kn hk h0 hp
      rw [Loop_inl e1]
      exact ih (p + 1) kn' (by omega) (by omega) (by omega) e2
    · refine Loop_inr ?_
      show BD ⟨c,m,f,t,v⟩ kn p = _
      unfold BD
      show cond (decide (p < t)) _ _ = _
      rw [dcf hp]; rfl
 refine key (t - f).toNat f _ (by omega) (by have := h.ft; omega) (by omega) ?_
 intro q h0 h1 y hy
 simp only [mGet] at hy
 by_cases e1 : q = f
 · rw [e1,if_pos (by simp)] at hy
   cases hy
   rw [e1,h.beg]; rfl
 · rw [if_neg (by simpa using e1)] at hy
   cases hy
end
end Go.Ab
end
section
namespace Go.Ab
set_option linter.unusedVariables false
def nmOK (s : ByteArray) : Prop := Fx s = some true
def mx (x : Ak) : Int := if 1 > x.Size then 1 else x.Size
def chOK : List Ak → Int → Prop
 | [],_ => True
 | x :: l,b => nmOK x.Name ∧ (0 ≤ x.Size ∧ x.Size ≤ 16) ∧ x.Base = b ∧ b + mx x ≤ 64 ∧ chOK l (b + mx x)
def dfOK (n : Int) : List Ao → Int → Prop
 | [],_ => True
 | d :: l,u => (d.Name = ⟨#[109,97,105,110]⟩ ∨ nmOK d.Name) ∧ (u < 0 → d.Entry = 0) ∧ u < d.Entry ∧ d.Entry < n ∧ 0 ≤ d.Params ∧ d.Params ≤ d.Vars ∧ d.Vars ≤ 16 ∧ dfOK n l d.Entry
structure TC (c : Au) : Prop where
 d1 : 1 ≤ c.Defs.length
 d2 : c.Defs.length ≤ 32
 i2 : c.Ins.length ≤ 65536
 m : ∃ d,0 ≤ c.Main ∧ lAt c.Defs c.Main = some d ∧ d.Params = 0
 ds : dfOK c.Ins.length c.Defs (-1)
 cl : c.Chans.length ≤ 100000
 cs : chOK c.Chans 0
theorem Q4 (c : Au) (hl : c.Chans.length ≤ 100000) : ∀ (n k : Nat) (b : Int),k + n = c.Chans.length → 0 ≤ b → b ≤ 64 → chOK (c.Chans.drop k) b → Loop (fun s : (Int × Int) => Ex c s.1 s.2) (b,(k : Int)) = some true
 | 0,k,b,hk,_,_,_ => by
   refine Loop_inr ?_
   show Ex c b k = _
   unfold Ex
   rw [dcf (by omega)]; rfl
 | n + 1,k,b,hk,b0,b1,hc => by
   have hkl : k < c.Chans.length := by omega
   rw [List.drop_eq_getElem_cons hkl] at hc
   obtain ⟨h1,h2,h3,h4,h5⟩ := hc
   have hm : 0 < mx c.Chans[k] := by unfold mx; split <;> omega
   have st : Ex c b k = some (Sum.inl (b + mx c.Chans[k],((k + 1 : Nat) : Int))) := by
    unfold Ex
    rw [dct (by omega),Gw hkl]
    show ((Fx c.Chans[k].Name).bind _) = _
    rw [show Fx c.Chans[k].Name = some true from h1]
    show cond (decide (c.Chans[k].Size < 0)) _ (cond (decide (16 < c.Chans[k].Size)) _ (F2 b k c.Chans[k] (c.Chans[k].Base != b))) = _
    rw [dcf (by omega),dcf (by omega),show (c.Chans[k].Base != b) = false by simpa using h3]
    show cond (decide (64 < w64 (b + mx c.Chans[k]))) _ (some (Sum.inl (w64 (b + mx c.Chans[k]),w64 ((k : Int) + 1)))) = _
    rw [w64i (n := b + mx c.Chans[k]) (by omega) (by omega),w64s (by omega),dcf (by omega)]; rfl
   rw [Loop_inl st]
   exact Q4 c hl n (k + 1) _ (by omega) (by omega) h4 h5
theorem QX (c : Au) (hc : Loop (fun s : (Int × Int) => Ex c s.1 s.2) (0,0) = some true) (hd : c.Defs.length ≤ 32) : ∀ (n k : Nat) (u : Int),k + n = c.Defs.length → dfOK c.Ins.length (c.Defs.drop k) u → Loop (fun s : (Int × Int) => E9 c s.1 s.2) (u,(k : Int)) = some true
 | 0,k,u,hk,_ => by
   refine Loop_inr ?_
   show E9 c u k = _
   unfold E9
   rw [dcf (by omega),hc]; rfl
 | n + 1,k,u,hk,hc' => by
   have hkl : k < c.Defs.length := by omega
   rw [List.drop_eq_getElem_cons hkl] at hc'
   obtain ⟨h1,h2,h3,h4,h5,h6,h7,h8⟩ := hc'
   have st : E9 c u k = some (Sum.inl (c.Defs[k].Entry,((k + 1 : Nat) : Int))) := by
    unfold E9
    rw [dct (by omega),Gw hkl]
    have j2 : GX c u k c.Defs[k] true = some (Sum.inl (c.Defs[k].Entry,((k + 1 : Nat) : Int))) := by
     unfold GX
     rw [dcf (show ¬ c.Defs[k].Entry ≤ u by omega),dcf (show ¬ (c.Ins.length : Int) ≤ c.Defs[k].Entry by omega),dcf (show ¬ c.Defs[k].Params < 0 by omega),dcf (show ¬ c.Defs[k].Vars < c.Defs[k].Params by omega),dcf (show ¬ 16 < c.Defs[k].Vars by omega)]
     have : BL k c.Defs[k] false = some (Sum.inl (c.Defs[k].Entry,((k + 1 : Nat) : Int))) := by
      show some (Sum.inl (c.Defs[k].Entry,w64 ((k : Int) + 1))) = _
      rw [w64s (by omega)]
     by_cases hu : u < 0
     · rw [dct hu,show (c.Defs[k].Entry != 0) = false by simpa using h2 hu]; exact this
     · rw [dcf hu]; exact this
    show cond (c.Defs[k].Name.toList == (⟨#[109,97,105,110]⟩ : ByteArray).toList) _ ((Fx c.Defs[k].Name).bind _) = _
    rcases h1 with h1 | h1
    · rw [h1,show ((⟨#[109,97,105,110]⟩ : ByteArray).toList == (⟨#[109,97,105,110]⟩ : ByteArray).toList) = true by simp]
      exact j2
    · rw [show Fx c.Defs[k].Name = some true from h1]
      cases hb : (c.Defs[k].Name.toList == (⟨#[109,97,105,110]⟩ : ByteArray).toList)
      · exact j2
      · exact j2
   rw [Loop_inl st]
   exact QX c hc hd n (k + 1) _ (by omega) h8
theorem NO {c : Au} (h : TC c) : H4 c = some true := by
 obtain ⟨d,m1,m2,m3⟩ := h.m
 have h1 := h.d1; have h2 := h.d2; have h3 := h.i2
 have m4 := lAt_rng m2
 have j : DJ c false = some true := QX c (Q4 c h.cl c.Chans.length 0 0 (by omega) (by omega) (by omega) (by simpa using h.cs)) h2 c.Defs.length 0 (-1) (by omega) (by simpa using h.ds)
 unfold H4
 rw [dcf (show ¬ (c.Defs.length : Int) < 1 by omega),dcf (show ¬ 32 < (c.Defs.length : Int) by omega),dcf (show ¬ 65536 < (c.Ins.length : Int) by omega),dcf (show ¬ c.Main < 0 by omega),dcf (show ¬ (c.Defs.length : Int) ≤ c.Main by omega),m2]
 show DJ c (d.Params != 0) = _
 rw [m3]; exact j
def toOf (c : Au) (i : Nat) : Int := if h : i + 1 < c.Defs.length then c.Defs[i + 1].Entry else c.Ins.length
def mkc (l : List Ac) (p : Nat) : Int := (((l.take p).filter fun x => x.Op == 1).length : Int)
structure SW (c : Au) : Prop where
 rt : ∀ (i : Nat) (h : i < c.Defs.length),∃ e S,Rt e c c.Defs[i].Entry (toOf c i) S ∧ EvOK e c ∧ e.nv = c.Defs[i].Vars
 mks : ∀ (p : Nat) (x : Ac),c.Ins[p]? = some x → x.Op = 1 → x.A = mkc c.Ins p
 st : c.Stmts = mkc c.Ins c.Ins.length
 e0 : ∀ h : 0 < c.Defs.length,c.Defs[0].Entry = 0
theorem routine_ok (c : Au) (hd : c.Defs.length ≤ 32) (i : Nat) (h : i < c.Defs.length) (m f t v : Int) : ER i ⟨c,m,f,t,v⟩ = some ⟨c,m,c.Defs[i].Entry,toOf c i,c.Defs[i].Vars⟩ := by
 unfold ER
 show ((lAt c.Defs i).bind fun y3 => (lAt c.Defs i).bind fun y4 => cond (decide (w64 ((i : Int) + 1) < (c.Defs.length : Int))) ((lAt c.Defs (w64 ((i : Int) + 1))).bind fun y6 => some (⟨c,m,y3.Entry,y6.Entry,y4.Vars⟩ : As)) (some (⟨c,m,y3.Entry,(c.Ins.length : Int),y4.Vars⟩ : As))) = _
 rw [Gw h,w64s (by omega)]
 show cond (decide (((i + 1 : Nat) : Int) < (c.Defs.length : Int))) _ _ = _
 unfold toOf
 by_cases h2 : i + 1 < c.Defs.length
 · rw [dct (by omega),dif_pos h2,Gw h2]; rfl
 · rw [dcf (by omega),dif_neg h2]; rfl
theorem Tb (l : List Ac) (p : Nat) (x : Ac) (h : l[p]? = some x) : mkc l (p + 1) = if x.Op = 1 then mkc l p + 1 else mkc l p := by
 unfold mkc
 rw [List.take_add_one,h]
 simp only [Option.toList,List.filter_append,List.length_append,List.filter_cons,List.filter_nil,beq_iff_eq]
 split
 · simp
 · simp
theorem Tc (l : List Ac) (p : Nat) : 0 ≤ mkc l p ∧ mkc l p ≤ l.length := by
 unfold mkc
 have := List.length_filter_le (fun x : Ac => x.Op == 1) (l.take p)
 rw [List.length_take] at this
 omega
theorem Pt {c : Au} (hr : SW c) {e : Ev} {f t : Int} {S : Int → Sp} (h : Rt e c f t S) (he : EvOK e c) (i : Int) (m0 : Int) : ∀ (n p : Nat),f ≤ p → p + n = t → Loop (fun s : (Int × Int) => Cn c i ⟨c,m0,f,t,e.nv⟩ s.1 s.2) ((p : Int),mkc c.Ins p) = some (Sum.inl (w64 (i + 1),c.Ins,c.Defs,c.Chans,c.Main,c.Stmts,mkc c.Ins (p + n),f,t,e.nv))
 | 0,p,h0,h1 => by
   refine Loop_inr ?_
   show Cn c i _ p (mkc c.Ins p) = _
   unfold Cn
   rw [dcf (show ¬ (p : Int) < t by omega)]; rfl
 | n + 1,p,h0,h1 => by
   obtain ⟨x,hx,ok,_⟩ := h.ok p h0 (by omega)
   have hx' : c.Ins[p]? = some x := by rw [← lAtn]; exact hx
   have hs := h.small; have hmk := Tc c.Ins p; have htl := h.tl
   have st : Cn c i ⟨c,m0,f,t,e.nv⟩ p (mkc c.Ins p) = some (Sum.inl (((p + 1 : Nat) : Int),mkc c.Ins (p + 1))) := by
    unfold Cn
    rw [dct (show (p : Int) < t by omega),Td h he (mkc c.Ins p) p x h0 (by omega) hx ok (hr.mks p x hx')]
    show ((lAt c.Ins p).bind _) = _
    rw [hx,Tb c.Ins p x hx']
    show cond (x.Op == 1) (some (Sum.inl (w64 ((p : Int) + 1),w64 (mkc c.Ins p + 1)))) (some (Sum.inl (w64 ((p : Int) + 1),mkc c.Ins p))) = _
    rw [w64s (by omega),w64i (by omega) (by omega)]
    by_cases ho : x.Op = 1
    · rw [beqt ho,if_pos ho]; rfl
    · rw [beqf ho,if_neg ho]; rfl
   rw [Loop_inl st,Pt hr h he i m0 n (p + 1) (by omega) (by omega),show p + 1 + n = p + (n + 1) by omega]
theorem Py {c : Au} (hd : c.Defs.length ≤ 32) (hr : SW c) : ∀ (n k : Nat) (m f t v : Int),k + n = c.Defs.length → Loop (fun s : (Int × (List Ac) × (List Ao) × (List Ak) × Int × Int × Int × Int × Int × Int) => C4 c s.1 s.2.1 s.2.2.1 s.2.2.2.1 s.2.2.2.2.1 s.2.2.2.2.2.1 s.2.2.2.2.2.2.1 s.2.2.2.2.2.2.2.1 s.2.2.2.2.2.2.2.2.1 s.2.2.2.2.2.2.2.2.2) ((k : Int),c.Ins,c.Defs,c.Chans,c.Main,c.Stmts,m,f,t,v) = some (0,0)
 | 0,k,m,f,t,v,hk => by
   refine Loop_inr ?_
   show C4 c k c.Ins c.Defs c.Chans c.Main c.Stmts m f t v = _
   unfold C4
   rw [dcf (by omega)]; rfl
 | n + 1,k,m,f,t,v,hk => by
   have hkl : k < c.Defs.length := by omega
   obtain ⟨e,S,h1,h2,h3⟩ := hr.rt k hkl
   have st : C4 c k c.Ins c.Defs c.Chans c.Main c.Stmts m f t v = some (Sum.inl (((k + 1 : Nat) : Int),c.Ins,c.Defs,c.Chans,c.Main,c.Stmts,m,c.Defs[k].Entry,toOf c k,c.Defs[k].Vars)) := by
    unfold C4
    rw [dct (by omega),routine_ok c hd k hkl]
    show ((EV ⟨c,m,c.Defs[k].Entry,toOf c k,c.Defs[k].Vars⟩).bind _) = _
    rw [SP h1]
    show some (Sum.inl (w64 ((k : Int) + 1),_)) = _
    rw [w64s (by omega)]
   rw [Loop_inl st]
   exact Py hd hr n (k + 1) _ _ _ _ (by omega)
theorem RX {c : Au} (ht : TC c) (hr : SW c) : Cr c = some (0,0) := by
 have hd := ht.d2
 have key : ∀ (n k p : Nat) (f t v : Int),k + n = c.Defs.length → ((p : Int) = if h : k < c.Defs.length then c.Defs[k].Entry else c.Ins.length) → Loop (fun s : (Int × (List Ac) × (List Ao) × (List Ak) × Int × Int × Int × Int × Int × Int) => FH c s.1 s.2.1 s.2.2.1 s.2.2.2.1 s.2.2.2.2.1 s.2.2.2.2.2.1 s.2.2.2.2.2.2.1 s.2.2.2.2.2.2.2.1 s.2.2.2.2.2.2.2.2.1 s.2.2.2.2.2.2.2.2.2) ((k : Int),c.Ins,c.Defs,c.Chans,c.Main,c.Stmts,mkc c.Ins p,f,t,v) = some (0,0) := by
  intro n
  induction n with
  | zero =>
    intro k p f t v hk hp
    rw [dif_neg (by omega)] at hp
    have hp' : p = c.Ins.length := by omega
    refine Loop_inr ?_
    show FH c k c.Ins c.Defs c.Chans c.Main c.Stmts (mkc c.Ins p) f t v = _
    unfold FH
    rw [dcf (by omega),hp',← hr.st]
    have := Py hd hr c.Defs.length 0 c.Stmts f t v (by omega)
    show Option.map Sum.inr (cond (c.Stmts != c.Stmts) (some (0,3)) (Loop (fun s : (Int × (List Ac) × (List Ao) × (List Ak) × Int × Int × Int × Int × Int × Int) => C4 c s.1 s.2.1 s.2.2.1 s.2.2.2.1 s.2.2.2.2.1 s.2.2.2.2.2.1 s.2.2.2.2.2.2.1 s.2.2.2.2.2.2.2.1 s.2.2.2.2.2.2.2.2.1 s.2.2.2.2.2.2.2.2.2) (((0 : Nat) : Int),c.Ins,c.Defs,c.Chans,c.Main,c.Stmts,c.Stmts,f,t,v))) = _
    rw [show (c.Stmts != c.Stmts) = false by simp,this]; rfl
  | succ n ih =>
    intro k p f t v hk hp
    have hkl : k < c.Defs.length := by omega
    rw [dif_pos hkl] at hp
    obtain ⟨e,S,h1,h2,h3⟩ := hr.rt k hkl
    have hft := h1.ft; have hf0 := h1.f0
    obtain ⟨q,hq⟩ := Int.eq_ofNat_of_zero_le (show 0 ≤ toOf c k - p by omega)
    have st : FH c k c.Ins c.Defs c.Chans c.Main c.Stmts (mkc c.Ins p) f t v = some (Sum.inl (((k + 1 : Nat) : Int),c.Ins,c.Defs,c.Chans,c.Main,c.Stmts,mkc c.Ins (p + q),c.Defs[k].Entry,toOf c k,e.nv)) := by
     unfold FH
     rw [dct (by omega),routine_ok c hd k hkl]
     show Loop (fun s : (Int × Int) => Cn c k ⟨c,mkc c.Ins p,c.Defs[k].Entry,toOf c k,c.Defs[k].Vars⟩ s.1 s.2) (c.Defs[k].Entry,mkc c.Ins p) = _
     rw [← h3,← hp]
     have := Pt hr h1 h2 k (mkc c.Ins p) q p (by omega) (by omega)
     rw [w64s (by omega),← hp] at this
     exact this
    rw [Loop_inl st]
    refine ih (k + 1) (p + q) _ _ _ (by omega) ?_
    have : ((p + q : Nat) : Int) = toOf c k := by omega
    rw [this]; rfl
 unfold Cr
 rw [NO ht]
 have h1 := ht.d1
 exact key c.Defs.length 0 0 0 0 0 (by omega) (by rw [dif_pos (by omega),hr.e0 (by omega)]; rfl)
end Go.Ab
end
section
namespace Go.Ab
set_option linter.unusedVariables false
def Kv (x : Aa) : Int := if x.Op = 38 then (if 1 > x.N then 1 else x.N) else 0
def sumM (l : List Aa) (ds : List Nat) (q : Nat) : Int := ((ds.take q).map fun d => Kv (nd l d)).sum
theorem Qm {l : List Aa} {ds : List Nat} (q : Nat) (h : q < ds.length) : sumM l ds (q + 1) = sumM l ds q + Kv (nd l ds[q]) := by
 unfold sumM
 rw [HY h,List.map_append,List.sum_append]
 simp
theorem QK (x : Aa) : FE x = some (Kv x) := by
 unfold FE Kv
 by_cases h : x.Op = 38
 · rw [show (x.Op != 38) = false by simpa using h,if_pos h]; rfl
 · rw [show (x.Op != 38) = true by simpa using h,if_neg h]; rfl
structure DcF (l : List Aa) (ds : List Nat) : Prop where
 num : ∀ q,q ≤ ds.length → sumM l ds q ≤ 64
 rou : cN l ds false ds.length ≤ 32
 main : ∃ (q : Nat) (h : q < ds.length),(nd l ds[q]).Op = 41
def DInv (l : List Aa) (ds : List Nat) (s : Int × Int × Bool × Int) : Prop := ∃ n : Nat,s.2.2.2 = n ∧ n ≤ ds.length ∧ s.1 = sumM l ds n ∧ s.2.1 = (cN l ds false n : Int) ∧ (s.2.2.1 = true → ∃ (q : Nat) (h : q < ds.length),(nd l ds[q]).Op = 41) ∧ (∀ q,q ≤ n → sumM l ds q ≤ 64) ∧ 0 ≤ sumM l ds n ∧ cN l ds false n ≤ 32
def RV (l : List Aa) (ds : List Nat) (n : Nat) (t : (Int × Int × Bool × Int) ⊕ Ap) : Prop := Sum.elim (fun s : Int × Int × Bool × Int => DInv l ds s ∧ ((ds.length : Int) - s.2.2.2).toNat < ((ds.length : Int) - (n : Int)).toNat) (fun g : Ap => g.E = 0 → DcF l ds) t
section
variable {l : List Aa} {ds : List Nat} (u : Un l ds)
include u
theorem Un.dshape (q : Nat) (h : q < ds.length) : ((nd l ds[q]).Op = 38 ∧ 0 ≤ (nd l ds[q]).N ∧ (nd l ds[q]).N ≤ 16 ∧ nmR (nd l ds[q]).Name) ∨ (nd l ds[q]).Op = 41 ∨ ((nd l ds[q]).Op = 40 ∧ nmR (nd l ds[q]).Name) := by
 obtain ⟨j,e1,_⟩ := u.dAt q h
 obtain ⟨x,kc,ks,hx,hs,hk,_⟩ := e1.at_
 rw [JT hx]
 cases hs with
 | chan h k n0 n1 nm => exact .inl ⟨h,n0,n1,nm⟩
 | main h k => exact .inr (.inl h)
 | proc h n k nm => exact .inr (.inr ⟨h,nm⟩)
theorem Un.many_rng (q : Nat) (h : q < ds.length) : 0 ≤ Kv (nd l ds[q]) ∧ Kv (nd l ds[q]) ≤ 16 := by
 have := u.dshape q h
 unfold Kv
 split
 · split <;> omega
 · omega
theorem Un.decls_ok : OkP (Et l) (fun g => g.E = 0 → DcF l ds) := by
 have hdl := u.dsl
 unfold Et
 rw [u.kids]
 refine Fm (S := Int × Int × Bool × Int) (DInv l ds) (fun s => (ds.length - s.2.2.2).toNat) ?_ _ ⟨0,rfl,by omega,rfl,rfl,by simp,fun q hq => by (have : q = 0 := by omega); subst this; show (0 : Int) ≤ 64; omega,by show (0 : Int) ≤ 0; omega,by show (0 : Nat) ≤ 32; omega⟩
 rintro ⟨a,b,m,i⟩ ⟨n,hn,hnl,ha,hb,hm,hq,h0,hr⟩
 replace hn : i = n := hn
 replace ha : a = sumM l ds n := ha
 replace hb : b = (cN l ds false n : Int) := hb
 subst hn ha hb
 show OkP (Db l (DK ds) (sumM l ds n) (cN l ds false n : Int) m n) _
 unfold Db
 rw [show ((DK ds).length : Int) = ds.length by simp]
 refine OkP.condD (fun hk => ?_) (fun hk => ?_)
 · have hn : n < ds.length := by omega
   obtain ⟨j,e1,e2,e3,e4,_⟩ := u.dAt n hn
   have en := dsAt n hn
   have hmr := u.many_rng n hn
   have hq1 := hq n (by omega)
   rw [en]
   show OkP ((lAt l (ds[n] : Int)).bind _) _
   rw [Hc (by omega)]
   refine Fm (S := Int) (fun k => 0 ≤ k ∧ k ≤ n) (fun k => ((n : Int) - k).toNat) (fun k ⟨k0,k1⟩ => ?_) 0 ⟨by omega,by omega⟩
   unfold Fo
   have nm : ∀ x,Ok (Br x) := fun x => by unfold Br; (repeat' (with_reducible first | exact OkP.rett _ | refine OkP.condN (fun _ => ?_) (fun _ => ?_) | refine OkP.condD (fun _ => ?_) (fun _ => ?_) | refine OkP.condE (fun _ => ?_) (fun _ => ?_) | refine OkP.condNE (fun _ => ?_) (fun _ => ?_) | refine OkP.condB (fun _ => ?_) (fun _ => ?_) | refine OkP.map ?_ | refine OkP.ret ?_ | refine OkP.at (by omega) (by omega) (fun _ _ => ?_) | refine OkP.sat (by omega) (by omega) (fun _ _ => ?_) | assumption))
   refine OkP.condD (fun hkn => ?_) (fun _ => ?_)
   · obtain ⟨k,rfl⟩ := Int.eq_ofNat_of_zero_le k0
     have hkl : k < ds.length := by omega
     obtain ⟨j',_,_,e3',e4',_⟩ := u.dAt k hkl
     rw [dsAt k hkl]
     show OkP ((lAt l (ds[k] : Int)).bind _) _
     rw [Hc (by omega)]
     refine OkP.bind (x := Br (nd l ds[k])) (nm _) fun y _ _ => OkP.bind (nm _) fun z _ _ => OkP.condB (fun _ => ?_) (fun _ => OkP.ret ?_)
     · rw [en]
       exact OkP.map (OkP.map (OkP.ret fun h => by cases h))
     · show (0 ≤ w64 ((k : Int) + 1) ∧ w64 ((k : Int) + 1) ≤ n) ∧ _
       rw [w64s (by omega)]
       omega
   · refine OkP.map ?_
     rw [QK]
     show OkP (cond ((nd l ds[n]).Op != 38) _ _) _
     have hc := MZ (l := l) (ds := ds) false n
     have hcu := Of (l := l) (ds := ds) false n hn
     have hsu := Qm (l := l) (ds := ds) n hn
     have j3 : ∀ (rr : Int) (mm x : Bool),rr = (cN l ds false (n + 1) : Int) → (mm = true → ∃ (q : Nat) (h : q < ds.length),(nd l ds[q]).Op = 41) → (x = false → sumM l ds (n + 1) ≤ 64 ∧ cN l ds false (n + 1) ≤ 32) → OkP (CB (DK ds) (sumM l ds n) n (Kv (nd l ds[n])) rr mm x) (RV l ds n) := by
      intro rr mm x h1 h2 h3
      unfold CB
      refine OkP.condB (fun _ => ?_) (fun hx => ?_)
      · rw [en]
        exact OkP.map (OkP.ret fun h => by cases h)
      · obtain ⟨h4,h5⟩ := h3 hx
        rw [w64i (by omega) (by omega),w64s (by omega)]
        refine OkP.ret ⟨⟨n + 1,rfl,by omega,hsu.symm,h1,h2,fun q hq' => ?_,by omega,h5⟩,?_⟩
        · by_cases e : q = n + 1
          · subst e; exact h4
          · exact hq q (by omega)
        · show ((ds.length : Int) - ((n + 1 : Nat) : Int)).toNat < _
          omega
     have j2 : ∀ (rr : Int) (mm : Bool),rr = (cN l ds false (n + 1) : Int) → (mm = true → ∃ (q : Nat) (h : q < ds.length),(nd l ds[q]).Op = 41) → OkP (CC (DK ds) (sumM l ds n) n (Kv (nd l ds[n])) rr mm) (RV l ds n) := by
      intro rr mm h1 h2
      unfold CC
      rw [w64i (by omega) (by omega)]
      exact OkP.condD (fun _ => j3 rr mm true h1 h2 (by simp)) (fun h64 => j3 rr mm _ h1 h2 fun h => ⟨by omega,by have := of_decide_eq_false h; omega⟩)
     have j1 : ∀ rr : Int,rr = (cN l ds false (n + 1) : Int) → OkP (CD (DK ds) (sumM l ds n) m n (nd l ds[n]) (Kv (nd l ds[n])) rr) (RV l ds n) := by
      intro rr h1
      unfold CD
      exact OkP.condB (fun hmt => j2 rr true h1 fun _ => hm hmt) (fun _ => j2 rr _ h1 fun h => ⟨n,hn,by simpa using h⟩)
     show OkP _ (RV l ds n)
     refine OkP.condNE (fun h38 => ?_) (fun h38 => ?_)
     · rw [w64i (by omega) (by omega)]
       refine j1 _ ?_
       rw [hcu,beqf h38]; rfl
     · refine j1 _ ?_
       rw [hcu,beqt h38]; rfl
 · refine OkP.map ?_
   have : n = ds.length := by omega
   subst this
   cases m with
   | false => exact OkP.ret fun h => by cases h
   | true => exact OkP.ret fun _ => ⟨hq,hr,hm rfl⟩
end
end Go.Ab
end
section
namespace Go.Ab
set_option linter.unusedVariables false
abbrev Q6 : ByteArray := ⟨#[109,97,105,110]⟩
def sumX (cs : List Ak) : Int := (cs.map mx).sum
theorem Oe : ∀ (cs : List Ak) (b : Int) (x : Ak),chOK cs b → nmOK x.Name → (0 ≤ x.Size ∧ x.Size ≤ 16) → x.Base = b + sumX cs → b + sumX cs + mx x ≤ 64 → chOK (cs ++ [x]) b
 | [],b,x,_,h1,h2,h3,h4 => by
   simp only [sumX,List.map_nil,List.sum_nil,Int.add_zero] at h3 h4
   exact ⟨h1,h2,h3,h4,trivial⟩
 | c :: cs,b,x,h,h1,h2,h3,h4 => by
   obtain ⟨a1,a2,a3,a4,a5⟩ := h
   simp only [sumX,List.map_cons,List.sum_cons] at h3 h4
   exact ⟨a1,a2,a3,a4,Oe cs _ x a5 h1 h2 (by unfold sumX; omega) (by unfold sumX; omega)⟩
structure RtF (l : List Aa) (ds : List Nat) (q : Nat) (rt : Aq) : Prop where
 h : ∃ (hq : q < ds.length) (e : Nat),IsR l ds ds[q] e ∧ rt.Node = (ds[q] : Int) ∧ (rt.Vars.length = numN l ds[q] e) ∧ ((nd l ds[q]).Op = 41 → rt.Params = 0)
 nm : rt.Name = Q6 ∨ nmOK rt.Name
 p0 : 0 ≤ rt.Params
 pv : rt.Params ≤ rt.Vars.length
structure RInv (l : List Aa) (ds : List Nat) (n : Nat) (routs : List Aq) : Prop where
 len : routs.length = cN l ds false n
 at_ : ∀ (q : Nat) (h : q < ds.length),q < n → (nd l ds[q]).Op ≠ 38 → ∃ rt,routs[cN l ds false q]? = some rt ∧ RtF l ds q rt
 of : ∀ (k : Nat) (rt : Aq),routs[k]? = some rt → ∃ (q : Nat) (h : q < ds.length),q < n ∧ (nd l ds[q]).Op ≠ 38 ∧ k = cN l ds false q ∧ RtF l ds q rt
structure CInv (l : List Aa) (ds : List Nat) (n : Nat) (chans : List Ak) : Prop where
 len : chans.length = cN l ds true n
 at_ : ∀ (q : Nat) (h : q < ds.length),q < n → (nd l ds[q]).Op = 38 → ∃ c,chans[cN l ds true q]? = some c ∧ c.Size = (nd l ds[q]).N
 ok : chOK chans 0
 sum : sumX chans = sumM l ds n
def MInv (l : List Aa) (ds : List Nat) (n : Nat) (m : Int) : Prop := (∃ (q : Nat) (h : q < ds.length),q < n ∧ (nd l ds[q]).Op = 41) → ∃ (q : Nat) (h : q < ds.length),q < n ∧ (nd l ds[q]).Op = 41 ∧ m = (cN l ds false q : Int)
structure PlF (l : List Aa) (ds : List Nat) (P : Ah) : Prop where
 nl : P.Nums.length = l.length
 na : ∀ (i : Nat) (v : Int),i < l.length → Bo l i = some v → P.Nums[i]? = some v
 ch : CInv l ds ds.length P.Chans
 rt : RInv l ds ds.length P.Routines
 mn : MInv l ds ds.length P.Main
section
variable {l : List Aa} {ds : List Nat} (u : Un l ds)
include u
theorem Un.nmOK_of {x : Aa} (hx : x ∈ l) (h : nmR x.Name) : nmOK x.Name := by
 unfold nmOK
 rw [SL x.Name (by have := (u.hN x hx).1; show _ ≤ 9223372036854775807; omega)]
 exact h
omit u in
theorem S9 {p : Nat} (h : p < l.length) : nd l p ∈ l := List.mem_of_getElem? (nd_at h)
theorem Un.nums_ok (hnum : ∀ i : Nat,i < l.length → Ok (Bo l i)) (m : Int) (chans : List Ak) (routs : List Aq) : OkP (Loop (fun s : (Int × (List Int)) => EB l m chans routs s.1 s.2) (0,([] : List Int))) (fun P => P.Chans = chans ∧ P.Routines = routs ∧ P.Main = m ∧ P.Nums.length = l.length ∧ ∀ (i : Nat) (v : Int),i < l.length → Bo l i = some v → P.Nums[i]? = some v) := by
 have hl := u.hl
 refine Fm (S := Int × List Int) (fun s => ∃ n : Nat,s.1 = n ∧ n ≤ l.length ∧ s.2.length = n ∧ ∀ (i : Nat) (v : Int),i < n → Bo l i = some v → s.2[i]? = some v) (fun s => (l.length - s.1).toNat) ?_ _ ⟨0,rfl,by omega,rfl,fun i v h => by omega⟩
 rintro ⟨i,acc⟩ ⟨n,hn,hnl,ha,hI⟩
 replace hn : i = n := hn
 replace ha : acc.length = n := ha
 subst hn
 show OkP (EB l m chans routs n acc) _
 unfold EB
 refine OkP.condD (fun hk => ?_) (fun hk => OkP.map (OkP.ret ⟨rfl,rfl,rfl,by show acc.length = _; omega,fun i v hi hv => hI i v (by omega) hv⟩))
 obtain ⟨v,ev,_⟩ := hnum n (by omega)
 rw [ev]
 show OkP (grd ((acc.length + [v].length) * 8 ≤ 140737488355328) _) _
 refine OkP.grd (by simp; omega) ?_
 rw [w64s (by omega)]
 refine OkP.ret ⟨⟨n + 1,rfl,by omega,by simp [ha],fun i w hi hw => ?_⟩,?_⟩
 · by_cases e : i = n
   · subst e
     rw [ev] at hw; cases hw
     show (acc ++ [v])[i]? = some v
     rw [← ha]; simp
   · show (acc ++ [v])[i]? = some w
     rw [List.getElem?_append_left (by omega)]
     exact hI i w (by omega) hw
 · show ((l.length : Int) - ((n + 1 : Nat) : Int)).toNat < ((l.length : Int) - (n : Int)).toNat
   omega
theorem Un.vars_ok (n : Nat) (hn : n < ds.length) (h38 : (nd l ds[n]).Op ≠ 38) (base : Int) (chans : List Ak) (routs : List Aq) (hrl : routs.length ≤ 3000) (mm : Int) (nm : ByteArray) (hnm : nm = Q6 ∨ nmOK nm) :
    OkP (Loop (fun s : (Int × Int × (List ByteArray)) => EC l (DK ds) base n chans routs mm nm (ds[n] : Int) s.1 s.2.1 s.2.2) ((ds[n] : Int),0,([] : (List ByteArray)))) (fun t => ∃ rt,t = .inl (base,w64 ((n : Int) + 1),mm,chans,routs ++ [rt]) ∧ RtF l ds n rt) := by
 have hl := u.hl
 have hdl := u.dsl
 obtain ⟨e,e1,e2,e3,e4,_⟩ := u.dAt n hn
 have hR : IsR l ds ds[n] e := ⟨n,hn,rfl,h38,e1⟩
 have no39 : (nd l ds[n]).Op = 41 → ∀ p,ds[n] ≤ p → p < e → (nd l p).Op ≠ 39 := by
  intro h41 p p0 p1
  obtain ⟨x,kc,ks,hx,hs,hk,_⟩ := e1.at_
  rw [JT hx] at h41
  by_cases hp : p = ds[n]
  · rw [hp,JT hx]; omega
  · cases hs with
    | chan h => omega
    | proc h => omega
    | main h k =>
      have := hk.inner (by simp [inner]) p (nd l p) (by omega) p1 (nd_at (by omega))
      omega
 refine Fm (S := Int × Int × List ByteArray) (fun s => ∃ i : Nat,s.1 = i ∧ ds[n] ≤ i ∧ i ≤ e ∧ s.2.2.length = numN l ds[n] i ∧ 0 ≤ s.2.1 ∧ s.2.1 ≤ s.2.2.length ∧ ((nd l ds[n]).Op = 41 → s.2.1 = 0)) (fun s => ((e : Int) - s.1).toNat) ?_ _ ⟨ds[n],rfl,by omega,by omega,by rw [numN_self l _ _ (by omega)]; rfl,by show (0 : Int) ≤ 0; omega,by show (0 : Int) ≤ 0; omega,fun _ => rfl⟩
 rintro ⟨i',p,vs⟩ ⟨i,hi,i0,i1,hv,p0,p1,pm⟩
 replace hi : i' = i := hi
 replace hv : vs.length = numN l ds[n] i := hv
 replace p0 : 0 ≤ p := p0
 replace p1 : p ≤ vs.length := p1
 subst hi
 have hnl := Pm l ds[n] i
 show OkP (EC l (DK ds) base n chans routs mm nm (ds[n] : Int) i p vs) _
 unfold EC
 rw [dsAt n hn]
 show OkP ((Bz l (ds[n] : Int)).bind _) _
 rw [KQ u.hl e1]
 refine OkP.condD (fun hk => ?_) (fun hk => ?_)
 · have hil : i < l.length := by omega
   have hup := Mf l ds[n] i i0 (nd l i) (nd_at hil)
   rw [Hc hil]
   show OkP ((BG (nd l i)).bind _) _
   rw [OO]
   have j3 : ∀ (p' : Int) (vs' : List ByteArray),vs'.length = numN l ds[n] (i + 1) → 0 ≤ p' → p' ≤ vs'.length → ((nd l ds[n]).Op = 41 → p' = 0) → OkP (Dv i p' vs') (Sum.elim (fun s' : Int × Int × List ByteArray => (∃ i : Nat,s'.1 = i ∧ ds[n] ≤ i ∧ i ≤ e ∧ s'.2.2.length = numN l ds[n] i ∧ 0 ≤ s'.2.1 ∧ s'.2.1 ≤ s'.2.2.length ∧ ((nd l ds[n]).Op = 41 → s'.2.1 = 0)) ∧ ((e : Int) - s'.1).toNat < ((e : Int) - i).toNat) (fun t => ∃ rt,t = .inl (base,w64 ((n : Int) + 1),mm,chans,routs ++ [rt]) ∧ RtF l ds n rt)) := by
    intro p' vs' h1 h2 h3 h4
    unfold Dv
    rw [w64s (by omega)]
    refine OkP.ret ⟨⟨i + 1,rfl,by omega,by omega,h1,h2,h3,h4⟩,?_⟩
    show ((e : Int) - ((i + 1 : Nat) : Int)).toNat < _
    omega
   show OkP (cond (declB (nd l i)) _ _) _
   refine OkP.condB (fun hd => ?_) (fun hd => ?_)
   · show OkP (grd ((vs.length + [(nd l i).Name].length) * 16 ≤ 140737488355328) _) _
     refine OkP.grd (by simp; omega) ?_
     unfold ED
     rw [Hc hil]
     show OkP (cond ((nd l i).Op == 39) _ _) _
     rw [hd,if_pos rfl] at hup
     refine OkP.condE (fun h39 => ?_) (fun _ => ?_)
     · rw [w64i (by omega) (by omega)]
       exact j3 _ _ (by simp; omega) (by omega) (by simp; omega) (fun h41 => absurd h39 (no39 h41 i i0 (by omega)))
     · exact j3 _ _ (by simp; omega) (by omega) (by simp; omega) pm
   · unfold ED
     rw [Hc hil]
     show OkP (cond ((nd l i).Op == 39) _ _) _
     rw [hd] at hup
     have h39 : ¬ (nd l i).Op = 39 := by
      intro h; unfold declB at hd; rw [h] at hd; cases hd
     rw [beqf h39]
     exact j3 _ _ (by simp at hup; omega) (by omega) (by omega) pm
 · have : i = e := by omega
   subst this
   refine OkP.map ?_
   refine OkP.grd (by simp; omega) (OkP.ret ⟨_,rfl,⟨⟨hn,i,hR,rfl,hv,pm⟩,hnm,p0,p1⟩⟩)
theorem Un.plan_ok (hd : DcF l ds) (hnum : ∀ i : Nat,i < l.length → Ok (Bo l i)) : OkP (GL l) (PlF l ds) := by
 have hl := u.hl
 have hdl := u.dsl
 unfold GL
 rw [u.kids]
 refine Fm (S := Int × Int × Int × (List Ak) × (List Aq)) (fun s => ∃ n : Nat,s.2.1 = n ∧ n ≤ ds.length ∧ s.1 = sumM l ds n ∧ 0 ≤ sumM l ds n ∧ MInv l ds n s.2.2.1 ∧ CInv l ds n s.2.2.2.1 ∧ RInv l ds n s.2.2.2.2) (fun s => ((ds.length : Int) - s.2.1).toNat) ?_ _ ⟨0,rfl,by omega,rfl,by show (0 : Int) ≤ 0; omega,fun ⟨q,h,hq,_⟩ => by omega,⟨rfl,fun q h hq => by omega,trivial,rfl⟩,⟨rfl,fun q h hq => by omega,fun k rt h => by simp at h⟩⟩
 rintro ⟨a,i,m,chans,routs⟩ ⟨n,hn,hnl,ha,h0,hm,hc,hr⟩
 replace hn : i = n := hn
 replace ha : a = sumM l ds n := ha
 subst hn ha
 replace hm : MInv l ds n m := hm
 replace hc : CInv l ds n chans := hc
 replace hr : RInv l ds n routs := hr
 have hcl := hc.len; have hrl := hr.len
 have hct := MZ (l := l) (ds := ds) true n
 have hcf := MZ (l := l) (ds := ds) false n
 show OkP (FM l (DK ds) (sumM l ds n) n m chans routs) _
 unfold FM
 rw [show ((DK ds).length : Int) = ds.length by simp]
 refine OkP.condD (fun hk => ?_) (fun hk => ?_)
 · have hn : n < ds.length := by omega
   obtain ⟨j,e1,e2,e3,e4,_⟩ := u.dAt n hn
   have hmr := u.many_rng n hn
   have hq1 := hd.num n (by omega)
   have hq2 := hd.num (n + 1) (by omega)
   have hsu := Qm (l := l) (ds := ds) n hn
   have hut := Of (l := l) (ds := ds) true n hn
   have huf := Of (l := l) (ds := ds) false n hn
   rw [dsAt n hn]
   show OkP ((lAt l (ds[n] : Int)).bind _) _
   rw [Hc (by omega)]
   show OkP (cond ((nd l ds[n]).Op == 38) _ _) _
   refine OkP.condE (fun h38 => ?_) (fun h38 => ?_)
   · refine OkP.grd (by simp; omega) ?_
     rw [QK]
     show OkP (Dw n (w64 (sumM l ds n + Kv (nd l ds[n]))) m (chans ++ [(⟨(nd l ds[n]).Name,sumM l ds n,(nd l ds[n]).N⟩ : Ak)]) routs) _
     unfold Dw
     rw [w64i (n := sumM l ds n + Kv (nd l ds[n])) (by omega) (by omega),w64s (by omega)]
     have sh := u.dshape n hn
     have hmx : mx (⟨(nd l ds[n]).Name,sumM l ds n,(nd l ds[n]).N⟩ : Ak) = Kv (nd l ds[n]) := by unfold mx Kv; rw [if_pos h38]
     rw [h38] at hut huf
     simp at hut huf
     refine OkP.ret ⟨⟨n + 1,rfl,by omega,hsu.symm,by omega,?_,?_,?_⟩,?_⟩
     · rintro ⟨q,h,hq,h41⟩
       have hqn : q ≠ n := fun e => by subst e; omega
       obtain ⟨q',h',a1,a2,a3⟩ := hm ⟨q,h,by omega,h41⟩
       exact ⟨q',h',by omega,a2,a3⟩
     · refine ⟨?_,fun q h hq h38' => ?_,?_,?_⟩
       · show (chans ++ [_]).length = _
         simp; omega
       · show ∃ c,(chans ++ [_])[_]? = some c ∧ _
         by_cases e : q = n
         · subst e
           exact ⟨⟨(nd l ds[q]).Name,sumM l ds q,(nd l ds[q]).N⟩,by rw [← hcl]; simp,rfl⟩
         · obtain ⟨c,c1,c2⟩ := hc.at_ q h (by omega) h38'
           refine ⟨c,?_,c2⟩
           rw [List.getElem?_append_left (List.getElem?_eq_some_iff.mp c1).1]
           exact c1
       · refine Oe chans 0 _ hc.ok (u.nmOK_of (S9 (by omega)) ?_) ?_ ?_ ?_
         · rcases sh with h | h | h
           · exact h.2.2.2
           · omega
           · omega
         · show 0 ≤ (nd l ds[n]).N ∧ (nd l ds[n]).N ≤ 16
           omega
         · show sumM l ds n = _
           rw [hc.sum]; omega
         · rw [hc.sum,hmx]; omega
       · show sumX (chans ++ [_]) = _
         unfold sumX
         rw [List.map_append,List.sum_append]
         have := hc.sum
         unfold sumX at this
         rw [this,hsu]
         simp [hmx]
     · refine ⟨by show routs.length = _; omega,fun q h hq hne => ?_,fun k rt hk => ?_⟩
       · have hqn : q ≠ n := fun e => by subst e; omega
         exact hr.at_ q h (by omega) hne
       · obtain ⟨q,h,a1,a2,a3,a4⟩ := hr.of k rt hk
         exact ⟨q,h,by omega,a2,a3,a4⟩
     · show ((ds.length : Int) - ((n + 1 : Nat) : Int)).toNat < ((ds.length : Int) - (n : Int)).toNat
       omega
   · rw [beqf h38] at hut huf
     simp at hut huf
     have hmn : Kv (nd l ds[n]) = 0 := by unfold Kv; rw [if_neg h38]
     have fin : ∀ mm : Int,MInv l ds (n + 1) mm → OkP (EE l (DK ds) (sumM l ds n) n chans routs (nd l ds[n]) mm) (Sum.elim (fun s' : Int × Int × Int × (List Ak) × (List Aq) => (∃ n : Nat,s'.2.1 = n ∧ n ≤ ds.length ∧ s'.1 = sumM l ds n ∧ 0 ≤ sumM l ds n ∧ MInv l ds n s'.2.2.1 ∧ CInv l ds n s'.2.2.2.1 ∧ RInv l ds n s'.2.2.2.2) ∧ ((ds.length : Int) - s'.2.1).toNat < ((ds.length : Int) - (n : Int)).toNat) (PlF l ds)) := by
      intro mm hmm
      have sh := u.dshape n hn
      have nmE : ∃ s,Br (nd l ds[n]) = some s ∧ (s = Q6 ∨ nmOK s) := by
       unfold Br
       rcases sh with h | h | h
       · omega
       · rw [h]; exact ⟨_,rfl,.inl rfl⟩
       · rw [h.1]; exact ⟨_,rfl,.inr (u.nmOK_of (S9 (by omega)) h.2)⟩
      obtain ⟨s,es,hs⟩ := nmE
      unfold EE
      rw [es,dsAt n hn]
      refine (u.vars_ok n hn h38 (sumM l ds n) chans routs (by omega) mm s hs).mono fun t _ ht => ?_
      obtain ⟨rt,rfl,hrt⟩ := ht
      rw [w64s (by omega)]
      refine ⟨⟨n + 1,rfl,by omega,by show sumM l ds n = _; omega,by omega,hmm,?_,?_⟩,?_⟩
      · refine ⟨by show chans.length = _; omega,fun q h hq h38' => ?_,hc.ok,by show sumX chans = _; rw [hc.sum]; omega⟩
        have hqn : q ≠ n := fun e => by subst e; omega
        exact hc.at_ q h (by omega) h38'
      · refine ⟨by show (routs ++ [rt]).length = _; simp; omega,fun q h hq hne => ?_,fun k r' hk => ?_⟩
        · show ∃ r',(routs ++ [rt])[_]? = some r' ∧ _
          by_cases e : q = n
          · subst e
            exact ⟨rt,by rw [← hrl]; simp,hrt⟩
          · obtain ⟨c,c1,c2⟩ := hr.at_ q h (by omega) hne
            refine ⟨c,?_,c2⟩
            rw [List.getElem?_append_left (List.getElem?_eq_some_iff.mp c1).1]
            exact c1
        · replace hk : (routs ++ [rt])[k]? = some r' := hk
          rcases Nat.lt_or_ge k routs.length with hlt | hge
          · rw [List.getElem?_append_left hlt] at hk
            obtain ⟨q,h,a1,a2,a3,a4⟩ := hr.of k r' hk
            exact ⟨q,h,by omega,a2,a3,a4⟩
          · have hk2 := (List.getElem?_eq_some_iff.mp hk).1
            simp at hk2
            have hk3 : k = routs.length := by omega
            subst hk3
            simp at hk
            subst hk
            exact ⟨n,hn,by omega,h38,by omega,hrt⟩
      · show ((ds.length : Int) - ((n + 1 : Nat) : Int)).toNat < ((ds.length : Int) - (n : Int)).toNat
        omega
     show OkP (cond ((nd l ds[n]).Op == 41) _ _) _
     refine OkP.condE (fun h41 => fin _ fun _ => ⟨n,hn,by omega,h41,by omega⟩) (fun h41 => fin m ?_)
     rintro ⟨q,h,hq,hq41⟩
     have hqn : q ≠ n := fun e => by subst e; omega
     obtain ⟨q',h',a1,a2,a3⟩ := hm ⟨q,h,by omega,hq41⟩
     exact ⟨q',h',by omega,a2,a3⟩
 · have : n = ds.length := by omega
   subst this
   refine OkP.map ((u.nums_ok hnum m chans routs).mono fun P _ ⟨h1,h2,h3,h4,h5⟩ => ?_)
   exact ⟨h4,h5,by rw [h1]; exact hc,by rw [h2]; exact hr,by rw [h3]; exact hm⟩
end
end Go.Ab
end
section
namespace Go.Ab
set_option linter.unusedVariables false
structure P13 (l : List Aa) (ds : List Nat) (P : Ah) : Prop where
 u : Un l ds
 d : DcF l ds
 p : PlF l ds P
 w : ∀ r e i : Nat,IsR l ds r e → r ≤ i ∧ i < e → WrF l ds r e i
theorem Tm {α : Type} (a b : Int) (k : Option α) : grd ((([a,b] : List Int)).length = 2 ∧ ((List.replicate 2 (0 : Int))).length = 2) k = k := JF ⟨rfl,rfl⟩ k
theorem SG (l : List Aa) (hl : l.length ≤ 3000) (hN : NI l) : OkP (Fy l) (fun g => g.E = 0 → ∃ ds,P13 l ds g.P) := by
 obtain ⟨a,e,ec,hu⟩ := PF l hl hN
 unfold Fy
 rw [ec]
 show OkP (grd ((([a,e] : List Int)).length = 2 ∧ ((List.replicate 2 (0 : Int))).length = 2) ((aAt 2 [a,e] 1).bind _)) _
 rw [Tm]
 show OkP (cond (e != 0) _ _) _
 refine OkP.condNE (fun he => OkP.ret fun h => absurd h he) (fun he => ?_)
 obtain ⟨ds,u⟩ := Un.mk' hl hN (hu he)
 refine OkP.bind u.decls_ok fun g _ hg => OkP.condNE (fun h0 => OkP.ret fun h => absurd h h0) (fun h0 => ?_)
 have hd := hg h0
 refine I0 l.length (by omega) (fun k => ∀ r e i : Nat,(i : Int) < k → IsR l ds r e → r ≤ i ∧ i < e → WrF l ds r e i) (fun k k0 k1 hI => ?_) (fun r e i h => by omega)
 obtain ⟨n,rfl⟩ := Int.eq_ofNat_of_zero_le k0
 unfold Gm
 refine OkP.condD (fun hk => ?_) (fun hk => ?_)
 · have go : (∀ r e : Nat,IsR l ds r e → r ≤ n ∧ n < e → WrF l ds r e n) → OkP (Ff n) (Sum.elim (fun j => (n : Int) < l.length ∧ j = w64 ((n : Int) + 1) ∧ ∀ r e i : Nat,(i : Int) < (n : Int) + 1 → IsR l ds r e → r ≤ i ∧ i < e → WrF l ds r e i) (fun g : Ap => g.E = 0 → ∃ ds,P13 l ds g.P)) := by
     intro h
     refine OkP.ret ⟨hk,rfl,fun r e i hi hr hie => ?_⟩
     by_cases e1 : i = n
     · subst e1; exact h r e hr hie
     · exact hI r e i (by omega) hr hie
   refine OkP.bind (u.routine_ok n) fun v ev hv => ?_
   rcases hv with ⟨h1,h2⟩ | ⟨r,e',h1,h2,h3,h4⟩
   · rw [dcf (by omega)]
     exact go fun r e hr h => absurd ⟨by omega,by omega⟩ (h2 r e hr)
   · rw [dct (by omega)]
     refine OkP.bind (u.wrong_ok h2 (i := n) ⟨by omega,by omega⟩) fun w _ hw => OkP.condNE (fun hw0 => OkP.map (OkP.ret fun h => absurd h hw0)) (fun hw0 => go fun r2 e2 hr2 h => ?_)
     obtain ⟨rfl,rfl⟩ := u.uniq h2 hr2 (i := n) ⟨by omega,by omega⟩ h
     exact hw hw0
 · have hw : ∀ r e i : Nat,IsR l ds r e → r ≤ i ∧ i < e → WrF l ds r e i := fun r e i hr h => hI r e i (by have := u.inR hr; omega) hr h
   have hnum : ∀ i : Nat,i < l.length → Ok (Bo l i) := fun i hi => by
    rcases u.where_ i hi with rfl | ⟨q,hq,rfl⟩ | ⟨r,e,hr,h1,h2⟩
    · exact u.num_0
    · exact u.num_d q hq
    · exact (u.num_ok hr ⟨by omega,h2⟩ (hw r e i hr ⟨by omega,h2⟩) h1).ok
   refine OkP.map (OkP.bind (u.plan_ok hd hnum) fun P _ hP => OkP.ret fun _ => ⟨ds,u,hd,hP,hw⟩)
structure NdF (l : List Aa) (P : Ah) (nv : Nat) (i : Nat) : Prop where
 var : isV (nd l i).Op ∨ (nd l i).Op = 18 → ∃ v : Int,lAt P.Nums i = some v ∧ 0 ≤ v ∧ v < nv
 ref : (nd l i).Op = 33 → ∃ (v : Int) (c : Ak),lAt P.Nums i = some v ∧ lAt P.Chans v = some c ∧ 0 ≤ c.Size ∧ (c.Size = 0 ↔ (nd l i).Kids = 0)
 sta : (nd l i).Op = 26 → ∃ (v : Int) (rt : Aq),lAt P.Nums i = some v ∧ lAt P.Routines v = some rt ∧ (nd l i).Kids = rt.Params
structure P14 (l : List Aa) (ds : List Nat) (P : Ah) : Prop where
 u : Un l ds
 d : DcF l ds
 p : PlF l ds P
 nv : ∀ r e,IsR l ds r e → numN l r e ≤ 16
 nf : ∀ r e i : Nat,IsR l ds r e → r < i → i < e → NdF l P (numN l r e) i
theorem nv16 {l : List Aa} {ds : List Nat} {P : Ah} (h : P13 l ds P) {r e : Nat} (hr : IsR l ds r e) : numN l r e ≤ 16 := by
 have hin := h.u.inR hr
 have key : ∀ d,r + d ≤ e → numN l r (r + d) ≤ 16 := by
  intro d
  induction d with
  | zero => intro _; rw [numN_self l r _ (by omega)]; omega
  | succ d ih =>
    intro hd
    have hup := Mf l r (r + d) (by omega) (nd l (r + d)) (nd_at (by omega))
    rw [show r + (d + 1) = r + d + 1 by omega,hup]
    split
    · rename_i hb
      have := (h.w r e (r + d) hr ⟨by omega,by omega⟩).dec hb
      omega
    · have := ih (by omega); omega
 have := key (e - r) (by omega)
 rw [show r + (e - r) = e by omega] at this
 exact this
theorem P13.nm {l : List Aa} {ds : List Nat} {P : Ah} (h : P13 l ds P) {r e i : Nat} (hr : IsR l ds r e) (h1 : r < i) (h2 : i < e) : ∃ v,lAt P.Nums i = some v ∧ NmF l ds r e i v := by
 obtain ⟨v,ev,hv⟩ := h.u.num_ok hr ⟨by omega,h2⟩ (h.w r e i hr ⟨by omega,h2⟩) h1
 have := h.u.inR hr
 exact ⟨v,by rw [lAtn]; exact h.p.na i v (by omega) ev,hv⟩
theorem Rz (l : List Aa) {p : Int} (hp : p < 0) : AP l p = some [] := by
 unfold AP
 rw [dct hp]; rfl
theorem P13.wrong14 {l : List Aa} {ds : List Nat} {P : Ah} (h : P13 l ds P) (i : Nat) (hi : i < l.length) : OkP (Gi l P i) (fun w => w = 0 → ∀ r e,IsR l ds r e → r < i → i < e → NdF l P (numN l r e) i) := by
 have hl := h.u.hl
 have hin : ∀ op : Int,op = 33 ∨ op = 26 → (nd l i).Op = op → ∃ r e,IsR l ds r e ∧ r < i ∧ i < e := by
  intro op ho hop
  rcases h.u.where_ i hi with rfl | ⟨q,hq,rfl⟩ | hr
  · obtain ⟨x,hx,h42⟩ := h.u.op0
    rw [JT hx] at hop; omega
  · have := h.u.dshape q hq
    omega
  · exact hr
 have var : ∀ r e,IsR l ds r e → r < i → i < e → (isV (nd l i).Op ∨ (nd l i).Op = 18 → ∃ v : Int,lAt P.Nums i = some v ∧ 0 ≤ v ∧ v < (numN l r e : Int)) := by
  intro r e hr h1 h2 hv
  obtain ⟨v,ev,nm⟩ := h.nm hr h1 h2
  obtain ⟨w,w1,w2,w3,rfl⟩ := nm.var hv
  have hin := h.u.inR hr
  have := SI l r w e w1 w2 (nd l w) (nd_at (by omega)) w3
  exact ⟨_,ev,by omega,by omega⟩
 unfold Gi
 rw [Hc hi]
 show OkP (cond ((nd l i).Op == 33) _ _) _
 refine OkP.condE (fun h33 => ?_) (fun h33 => ?_)
 · obtain ⟨r,e,hr,h1,h2⟩ := hin 33 (.inl rfl) h33
   obtain ⟨v,ev,nm⟩ := h.nm hr h1 h2
   obtain ⟨q,hq,q1,rfl⟩ := nm.ref h33
   obtain ⟨c,c1,c2⟩ := h.p.ch.at_ q hq hq q1
   have sh := h.u.dshape q hq
   have ec : lAt P.Chans (cN l ds true q : Int) = some c := by rw [lAtn]; exact c1
   rw [ev]
   show OkP ((lAt P.Chans (cN l ds true q : Int)).bind _) _
   rw [ec]
   have kids : (nd l i).Kids = 0 ∨ ((nd l i).Kids = 1 ∧ i + 1 < l.length) := by
    obtain ⟨cl,j,hp,hj⟩ := h.u.hu.all i (by omega) hi
    obtain ⟨x,kc,ks,hx,hs,hk,_⟩ := hp.at_
    rw [JT hx] at h33 ⊢
    cases hs with
    | ref0 h k => exact .inl k
    | ref1 h k => exact .inr ⟨k,by have := hk.le.2.1 (by simp); omega⟩
    | un h => omega
    | st1 h => omega
    | nul h => omega
    | _ => omega
   have fin : (c.Size = 0 ↔ (nd l i).Kids = 0) → ∀ r e,IsR l ds r e → r < i → i < e → NdF l P (numN l r e) i := by
    intro hc r2 e2 hr2 a b
    exact ⟨var r2 e2 hr2 a b,fun _ => ⟨_,c,ev,ec,by omega,hc⟩,fun h26 => by omega⟩
   have j3 : ∀ b : Bool,(c.Size = 0 ↔ (nd l i).Kids = 0) → OkP (C9 b) (fun w => w = 0 → ∀ r e,IsR l ds r e → r < i → i < e → NdF l P (numN l r e) i) := fun b hc => by
    unfold C9
    exact OkP.condB (fun _ => OkP.ret fun h => by omega) (fun _ => OkP.ret fun _ => fin hc)
   have j2 : ∀ b : Bool,(b = false → (c.Size = 0 ↔ (nd l i).Kids = 0)) → OkP (Bu l i c b) (fun w => w = 0 → ∀ r e,IsR l ds r e → r < i → i < e → NdF l P (numN l r e) i) := fun b hb => by
    unfold Bu
    refine OkP.condB (fun _ => OkP.ret fun h => by omega) (fun hf => OkP.condD (fun hs => ?_) (fun _ => j3 false (hb hf)))
    have hi1 : i + 1 < l.length := by
     have := hb hf
     rcases kids with k | k
     · omega
     · exact k.2
    rw [w64s (by omega),Hc hi1]
    show OkP (cond ((nd l (i + 1)).Op == 1) _ _) _
    exact OkP.condE (fun _ => j3 _ (hb hf)) (fun _ => j3 false (hb hf))
   show OkP (cond (c.Size == 0) (cond (decide (0 < (nd l i).Kids)) _ (cond (decide (0 < c.Size)) (Bu l i c ((nd l i).Kids == 0)) _)) (cond (decide (0 < c.Size)) (Bu l i c ((nd l i).Kids == 0)) _)) _
   have kk := kids
   refine OkP.condE (fun hs => OkP.condD (fun _ => j2 true (by simp)) (fun hk => OkP.condD (fun hs2 => by omega) (fun _ => j2 false fun _ => by omega))) (fun hs => OkP.condD (fun hs2 => j2 _ fun hk => ?_) (fun hs2 => j2 false fun _ => by omega))
   have : ¬ (nd l i).Kids = 0 := by simpa using hk
   omega
 · show OkP (cond ((nd l i).Op == 26) _ _) _
   refine OkP.condE (fun h26 => ?_) (fun h26 => ?_)
   · obtain ⟨r,e,hr,h1,h2⟩ := hin 26 (.inr rfl) h26
     obtain ⟨v,ev,nm⟩ := h.nm hr h1 h2
     obtain ⟨q,hq,q1,rfl⟩ := nm.sta h26
     obtain ⟨rt,c1,c2⟩ := h.p.rt.at_ q hq hq q1
     have ec : lAt P.Routines (cN l ds false q : Int) = some rt := by rw [lAtn]; exact c1
     rw [ev]
     show OkP ((lAt P.Routines (cN l ds false q : Int)).bind _) _
     rw [ec]
     show OkP (cond ((nd l i).Kids != rt.Params) _ _) _
     exact OkP.condNE (fun _ => OkP.ret fun h => by omega) (fun hk => OkP.ret fun _ r2 e2 hr2 a b => ⟨var r2 e2 hr2 a b,fun h => by omega,fun _ => ⟨_,rt,ev,ec,hk⟩⟩)
   · have fin : ∀ r e,IsR l ds r e → r < i → i < e → NdF l P (numN l r e) i := fun r2 e2 hr2 a b => ⟨var r2 e2 hr2 a b,fun h => by omega,fun h => by omega⟩
     have j1 : OkP (Cy) (fun w => w = 0 → ∀ r e,IsR l ds r e → r < i → i < e → NdF l P (numN l r e) i) := OkP.ret fun _ => fin
     show OkP (cond ((nd l i).Op == 37) _ _) _
     refine OkP.condE (fun _ => OkP.bind (h.u.up_ok i (by omega)) fun v _ hv => ?_) (fun _ => j1)
     have hk : ∃ ks : List Nat,AP l v = some (DK ks) ∧ (∀ k ∈ ks,k < l.length) ∧ ks.length ≤ 3000 := by
      rcases hv with rfl | ⟨a,b⟩
      · exact ⟨[],Rz l (by omega),by simp,by simp⟩
      · obtain ⟨n,rfl⟩ := Int.eq_ofNat_of_zero_le a
        obtain ⟨ks,e1,e2⟩ := h.u.kids_any (p := n) (by omega)
        refine ⟨ks,e1,e2,?_⟩
        obtain ⟨c,j,hp,hj⟩ := h.u.hu.all n (by omega) (by omega)
        obtain ⟨x,kc,ks',hx,hs,hk',_⟩ := hp.at_
        have e2 := J5 hl hx hs hk'
        rw [e1] at e2
        have e3 : DK ks = DK ks' := Option.some.inj e2
        have e4 : ks.length = ks'.length := by have := congrArg List.length e3; simpa using this
        have key : ∀ {cs : List Cls} {i k : Nat} {ss : List Nat},Pcs l cs i k ss → cs.length ≤ k - i := by
         intro cs i k ss h
         induction h with
         | nil i => simp
         | cons c cs i j k x kc ks ss hx hs hk hr ih1 ih2 => have := hk.le; have := hr.le; simp; omega
        have := key hk'; have := hk'.le.2.2
        omega
     obtain ⟨ks,ek,km,kl⟩ := hk
     rw [ek]
     refine I0 ks.length (by omega) (fun _ => True) (fun k k0 k1 _ => ?_) trivial
     obtain ⟨n,rfl⟩ := Int.eq_ofNat_of_zero_le k0
     unfold GI
     rw [show ((DK ks).length : Int) = ks.length by simp]
     have out : OkP (C8 l (DK ks) n false) (Sum.elim (fun j => (n : Int) < ks.length ∧ j = w64 ((n : Int) + 1) ∧ True) (fun w => w = 0 → ∀ r e,IsR l ds r e → r < i → i < e → NdF l P (numN l r e) i)) := by
      show OkP (Cy.map Sum.inr) _
      exact OkP.map j1
     refine OkP.condD (fun hk => ?_) (fun _ => out)
     have hn : n < ks.length := by omega
     have en : lAt (DK ks) (n : Int) = some (ks[n] : Int) := by rw [Gw (by simpa using hn)]; simp
     rw [en]
     show OkP (C8 l (DK ks) n (decide ((ks[n] : Int) < i))) _
     by_cases hlt : (ks[n] : Int) < i
     · rw [dct hlt]
       unfold C8
       rw [en]
       show OkP ((lAt l (ks[n] : Int)).bind _) _
       rw [Hc (by omega)]
       show OkP (cond ((nd l ks[n]).Op == 37) _ _) _
       exact OkP.condE (fun _ => OkP.map (OkP.ret fun h => by omega)) (fun _ => OkP.ret ⟨hk,rfl,trivial⟩)
     · rw [dcf hlt]; exact out
theorem QB (l : List Aa) (hl : l.length ≤ 3000) (hN : NI l) : OkP (ET l) (fun g => (g.E = 0 → ∃ ds,P14 l ds g.P)) := by
 unfold ET
 refine OkP.bind (SG l hl hN) fun g _ hg => OkP.condNE (fun he => OkP.ret fun h => absurd h he) (fun he => ?_)
 obtain ⟨ds,h⟩ := hg he
 refine I0 l.length (by omega) (fun k => ∀ i : Nat,(i : Int) < k → ∀ r e,IsR l ds r e → r < i → i < e → NdF l g.P (numN l r e) i) (fun k k0 k1 hI => ?_) (fun i h => by omega)
 obtain ⟨n,rfl⟩ := Int.eq_ofNat_of_zero_le k0
 unfold Gj
 refine OkP.condD (fun hk => OkP.bind (h.wrong14 n (by omega)) fun w _ hw => OkP.condNE (fun hw0 => OkP.map (OkP.ret fun h => absurd h hw0)) (fun hw0 => OkP.ret ⟨hk,rfl,fun i hi => ?_⟩)) (fun hk => OkP.map (OkP.ret fun _ => ⟨ds,h.u,h.d,h.p,fun r e hr => nv16 h hr,fun r e i hr h1 h2 => hI i (by have := h.u.inR hr; omega) r e hr h1 h2⟩))
 by_cases e1 : i = n
 · subst e1; exact hw hw0
 · exact hI i (by omega)
end Go.Ab
end
section
namespace Go.Ab
set_option linter.unusedVariables false
def Pa {α : Type} (x : Option α) (Q : α → Prop) : Prop := ∀ r,x = some r → Q r
section
variable {α β : Type} {Q : β → Prop}
theorem Pa.ret {r : β} (h : Q r) : Pa (some r) Q := fun _ e => by cases e; exact h
theorem Pa.cond {b : Bool} {x y : Option β} (h1 : Pa x Q) (h2 : Pa y Q) : Pa (cond b x y) Q := by cases b <;> assumption
theorem Pa.condB {b : Bool} {x y : Option β} (h1 : b = true → Pa x Q) (h2 : b = false → Pa y Q) : Pa (_root_.cond b x y) Q := by
 cases b
 · exact h2 rfl
 · exact h1 rfl
theorem Pa.bind {x : Option α} {f : α → Option β} {P : α → Prop} (h : Pa x P) (k : ∀ y,x = some y → P y → Pa (f y) Q) : Pa (x.bind f) Q := fun r e => by
 obtain ⟨y,ey,e⟩ := bs e
 exact k y ey (h y ey) r e
theorem Pa.any {x : Option α} {f : α → Option β} (k : ∀ y,Pa (f y) Q) : Pa (x.bind f) Q := fun r e => by
 obtain ⟨y,ey,e⟩ := bs e
 exact k y r e
theorem Pa.grd {p : Prop} [Decidable p] {x : Option β} (h : Pa x Q) : Pa (Go.Ab.grd p x) Q := fun r e => h r (gs e).2
theorem Pa.map {γ : Type} {g : β → γ} {x : Option β} {R : γ → Prop} (h : Pa x fun r => R (g r)) : Pa (x.map g) R := fun r e => by
 cases x with
 | none => cases e
 | some y => cases e; exact h y rfl
theorem Pa.loop {S : Type} {step : S → Option (S ⊕ β)} (I : S → Prop) (h : ∀ s,I s → Pa (step s) (Sum.elim I Q)) {s : S} (hs : I s) : Pa (Loop step s) Q := fun r e => by
 obtain ⟨n,e⟩ := Ke e
 have key : ∀ n s,I s → iter step n s = some r → Q r := by
  intro n
  induction n with
  | zero => intro s _ e; cases e
  | succ n ih =>
    intro s hs e
    unfold iter at e
    cases e1 : step s with
    | none => rw [e1] at e; cases e
    | some v =>
      rw [e1] at e
      have := h s hs v e1
      cases v with
      | inl s' => exact ih s' this e
      | inr r' => cases e; exact this
 exact key n s hs e
end
abbrev Nn (r : Ae) : Prop := 0 ≤ r.At
section
variable {l : List Aa} (self : PSelf) (hs : ∀ (b : Int) (c : ByteArray),0 ≤ b → Pa (self l b c) Nn)
include hs
theorem S3 (p : Ae) (hp : Nn p) (w : ByteArray) : Pa (AH self l p w) Nn := by
 unfold AH
 refine Pa.loop (fun s : Int × Int × Bool => 0 ≤ s.2.1) ?_ hp
 rintro ⟨k,a,b⟩ h
 replace h : 0 ≤ a := h
 have j1 : ∀ c,Pa (E2 self l w k a b c) (Sum.elim (fun s : Int × Int × Bool => 0 ≤ s.2.1) Nn) := fun c => by
  unfold E2
  exact Pa.cond (Pa.grd (Pa.bind (hs a _ h) fun y _ hy => Pa.ret hy)) (Pa.map (Pa.ret h))
 show Pa (D1 self l w k a b) _
 unfold D1
 exact Pa.cond (j1 _) (j1 _)
theorem Si (p : Ae) (hp : Nn p) (w : ByteArray) (n : Int) : Pa (Bh self l p w n) Nn := by
 unfold Bh
 refine Pa.loop (fun s : Int × Int × Bool => 0 ≤ s.2.1) ?_ hp
 rintro ⟨k,a,b⟩ h
 replace h : 0 ≤ a := h
 have j1 : ∀ c,Pa (E3 self l w k a b c) (Sum.elim (fun s : Int × Int × Bool => 0 ≤ s.2.1) Nn) := fun c => by
  unfold E3
  exact Pa.cond (Pa.bind (hs a _ h) fun y _ hy => Pa.ret hy) (Pa.map (Pa.ret h))
 show Pa (D2 self l w n k a b) _
 unfold D2
 exact Pa.cond (j1 _) (j1 _)
theorem Mb (p : Ae) (hp : Nn p) (w : ByteArray) : Pa ((AH self l p w).bind fun y => some y) Nn := Pa.bind (S3 self hs p hp w) fun y _ hy => Pa.ret hy
theorem Q9 (p : Ae) (hp : Nn p) (w : ByteArray) (n : Int) : Pa ((Bh self l p w n).bind fun y => some y) Nn := Pa.bind (Si self hs p hp w n) fun y _ hy => Pa.ret hy
variable (x : Aa) (p q : Ae) (hp : Nn p) (hq : Nn q)
include hp hq
theorem Sr : Pa (DZ self l x p q) Nn := by
 have r := Mb self hs q hq
 have j4 : ∀ b,Pa (B9 self l p q b) Nn := fun b => by
  unfold B9
  exact Pa.cond (r _) (Pa.ret hp)
 have j3 : ∀ b,Pa (Ca self l x p q b) Nn := fun b => by
  unfold Ca
  repeat' (with_reducible first | exact j4 _ | exact r _ | apply Pa.cond | (refine Pa.any fun _ => ?_))
 have j2 : ∀ b,Pa (CT self l x p q b) Nn := fun b => by
  unfold CT
  repeat' (with_reducible first | exact j3 _ | exact Pa.ret hq | apply Pa.cond | (refine Pa.any fun _ => ?_))
 have j1 : ∀ b,Pa (BC self l x p q b) Nn := fun b => by
  unfold BC
  repeat' (with_reducible first | exact j2 _ | exact Pa.ret hq | apply Pa.cond | (refine Pa.any fun _ => ?_))
 unfold DZ
 repeat' (with_reducible first | exact j1 _ | apply Pa.cond)
theorem Sw : Pa (D0 self l x p q) Nn := by
 have r := Mb self hs q hq
 have al := Q9 self hs q hq
 have j1 : Pa (A3 self p) Nn := Pa.ret hp
 have j3 : ∀ b,Pa (CW self l x p q b) Nn := fun b => by
  unfold CW
  exact Pa.cond (al _ _) j1
 have j4 : ∀ b,Pa (CV self l x p q b) Nn := fun b => by
  unfold CV
  exact Pa.cond (al _ _) j1
 have j6 : ∀ b,Pa (CU self x p q b) Nn := fun b => by
  unfold CU
  exact Pa.cond (Pa.any fun _ => Pa.cond (Pa.ret hq) j1) j1
 have j5 : ∀ b,Pa (Cb self l x p q b) Nn := fun b => by
  unfold Cb
  exact Pa.cond (Pa.any fun _ => Pa.cond (r _) j1) (Pa.cond (j6 _) (j6 _))
 have j2 : ∀ b,Pa (Cc self l x p q b) Nn := fun b => by
  unfold Cc
  repeat' (with_reducible first | exact j1 | exact j3 _ | exact j4 _ | exact j5 _ | exact r _ | apply Pa.cond | (refine Pa.any fun _ => ?_))
 unfold D0
 exact Pa.cond (j2 _) (Pa.cond (j2 _) (j2 _))
theorem Q3 : Pa (Dd self l x p q) Nn := by
 have r := Mb self hs q hq
 have j3 : ∀ w b,Pa (A9 self l p q w b) Nn := fun w b => by
  unfold A9
  exact Pa.cond (Pa.ret hp) (r _)
 have j2 : ∀ w,Pa (Cm self l x p q w) Nn := fun w => by
  unfold Cm
  repeat' (with_reducible first | exact j3 _ _ | apply Pa.cond | (refine Pa.any fun _ => ?_))
 have j1 : ∀ w,Pa (By self l x p q w) Nn := fun w => by
  unfold By
  exact Pa.cond (Pa.grd (j2 _)) (j2 _)
 unfold Dd
 repeat' (with_reducible first | exact j1 _ | exact r _ | exact Pa.ret hp | apply Pa.cond | (refine Pa.any fun _ => ?_))
end
theorem Ph (l : List Aa) (hl : l.length ≤ 3000) : ∀ (n : Nat) (a : Int) (c : ByteArray),0 ≤ a → Pa (Ax n l a c) Nn
 | 0,_,_,_ => fun _ e => by cases e
 | n + 1,a,c,h => by
   have hs := Ph l hl n
   show Pa (Cd (Ax n) l a c) Nn
   unfold Cd
   refine Pa.cond (Pa.ret (by show (0 : Int) ≤ (l.length : Int); omega)) (Pa.bind (P := fun _ => a < 3000) (fun y e => ?_) fun y _ ha => ?_)
   · obtain ⟨h1,h2⟩ := lAt_rng e
     show a < 3000
     omega
   have hp : Nn ⟨a,false⟩ := h
   have hq : Nn ⟨w64 (a + 1),true⟩ := by show 0 ≤ w64 (a + 1); rw [w64i (by omega) (by omega)]; omega
   have al := Q9 _ hs _ hq
   have ro := Mb _ hs _ hq
   have j1 : Pa (A5 (Ax n) a) Nn := Pa.ret hp
   have j2 : ∀ b,Pa (BY (Ax n) l a y b) Nn := fun b => by
    unfold BY; exact Pa.cond (al _ _) j1
   have j3 : ∀ b,Pa (BX (Ax n) l a y b) Nn := fun b => by
    unfold BX; exact Pa.cond (al _ _) j1
   have j4 : ∀ b,Pa (CG (Ax n) a b) Nn := fun b => by
    unfold CG; exact Pa.cond (Pa.ret hq) j1
   have j5 : ∀ b,Pa (BW (Ax n) l a y b) Nn := fun b => by
    unfold BW; exact Pa.cond (al _ _) j1
   have j6 : ∀ b,Pa (BH (Ax n) a b) Nn := fun b => by
    unfold BH; exact Pa.cond (Pa.ret hq) j1
   have j7 : ∀ b,Pa (CF (Ax n) l a y b) Nn := fun b => by
    unfold CF; exact Pa.cond (Pa.bind (Si _ hs _ hq _ _) fun z _ hz => Mb _ hs _ hz _) j1
   repeat' (with_reducible first | exact j1 | exact j2 _ | exact j3 _ | exact j4 _ | exact j5 _ | exact j6 _ | exact j7 _ | exact al _ _ | exact ro _ | exact Pa.bind (Sr _ hs y _ _ hp hq) (fun z _ hz => Pa.ret hz) | exact Pa.bind (Sw _ hs y _ _ hp hq) (fun z _ hz => Pa.ret hz) | exact Pa.bind (Q3 _ hs y _ _ hp hq) (fun z _ hz => Pa.ret hz) | apply Pa.cond | (refine Pa.any fun _ => ?_))
theorem RO (l : List Aa) (hl : l.length ≤ 3000) : Pa (Eu l) (fun r => ∃ a e,r = [a,e] ∧ 0 ≤ a) := by
 unfold Eu
 refine Pa.bind (Ph l hl 4000 0 _ (by omega)) fun y _ hy => ?_
 have j : ∀ b,Pa (CH y b) (fun r => ∃ a e,r = [a,e] ∧ 0 ≤ a) := fun b => by
  unfold CH
  exact Pa.cond (Pa.grd (Pa.grd (Pa.ret ⟨0,0,rfl,by omega⟩))) (Pa.grd (Pa.grd (Pa.ret ⟨y.At,3,rfl,hy⟩)))
 exact Pa.cond (j _) (j _)
abbrev Gn (g : Ap) : Prop := 0 ≤ g.At
theorem RN {l : List Aa} {ds : List Nat} (u : Un l ds) : Pa (Et l) Gn := by
 unfold Et
 rw [u.kids]
 have hc : ∀ (i : Int) (y : Int),lAt (DK ds) i = some y → 0 ≤ y := fun i y e => by
  have hm := OJ e
  obtain ⟨n,_,rfl⟩ := List.mem_map.mp hm
  omega
 refine Pa.loop (fun _ => True) ?_ trivial
 rintro ⟨a,b,m,i⟩ _
 show Pa (Db l (DK ds) a b m i) _
 unfold Db
 refine Pa.cond (Pa.any fun _ => Pa.any fun x => ?_) (Pa.map (Pa.cond (Pa.ret ?_) (Pa.ret ?_)))
 · refine Pa.loop (fun _ => True) (fun j _ => ?_) trivial
   have j3 : ∀ v r m b,Pa (CB (DK ds) a i v r m b) (Sum.elim (fun _ => True) Gn) := fun v r m b => by
    unfold CB
    exact Pa.cond (Pa.bind (fun y e => hc i y e) fun y _ hy => Pa.map (Pa.ret hy)) (Pa.ret trivial)
   have j2 : ∀ v r m,Pa (CC (DK ds) a i v r m) (Sum.elim (fun _ => True) Gn) := fun v r m => by
    unfold CC
    exact Pa.cond (j3 _ _ _ _) (j3 _ _ _ _)
   have j1 : ∀ v r,Pa (CD (DK ds) a m i x v r) (Sum.elim (fun _ => True) Gn) := fun v r => by
    unfold CD
    exact Pa.cond (j2 _ _ _) (j2 _ _ _)
   unfold Fo
   refine Pa.cond (Pa.any fun _ => Pa.any fun _ => Pa.any fun _ => Pa.any fun _ => Pa.cond (Pa.bind (fun y e => hc i y e) fun y _ hy => Pa.map (Pa.map (Pa.ret hy))) (Pa.ret trivial)) (Pa.map (Pa.any fun _ => Pa.cond (j1 _ _) (j1 _ _)))
 · show (0 : Int) ≤ (l.length : Int); omega
 · show (0 : Int) ≤ 0; omega
theorem SH (l : List Aa) (hl : l.length ≤ 3000) (hN : NI l) : Pa (Fy l) Gn := by
 obtain ⟨a,e,ec,hu⟩ := PF l hl hN
 obtain ⟨a',e',hae,ha⟩ := RO l hl _ ec
 cases hae
 unfold Fy
 rw [ec]
 show Pa (grd ((([a,e] : List Int)).length = 2 ∧ ((List.replicate 2 (0 : Int))).length = 2) ((aAt 2 [a,e] 1).bind _)) _
 rw [Tm]
 show Pa (cond (e != 0) _ _) _
 refine Pa.condB (fun _ => Pa.ret ha) (fun he => ?_)
 obtain ⟨ds,u⟩ := Un.mk' hl hN (hu (by simpa using he))
 refine Pa.bind (RN u) fun g _ hg => Pa.cond (Pa.ret hg) ?_
 refine Pa.loop (fun i => 0 ≤ i) (fun i hi => ?_) (by show (0 : Int) ≤ 0; omega)
 unfold Gm
 refine Pa.condB (fun hlt => ?_) (fun _ => Pa.map (Pa.any fun _ => Pa.ret (by show (0 : Int) ≤ 0; omega)))
 have := of_decide_eq_true hlt
 have j : Pa (Ff i) (Sum.elim (fun i => 0 ≤ i) Gn) := Pa.ret (by show 0 ≤ w64 (i + 1); rw [w64i (by omega) (by omega)]; omega)
 exact Pa.any fun _ => Pa.cond (Pa.any fun _ => Pa.cond (Pa.map (Pa.ret hi)) j) j
theorem SE (l : List Aa) (hl : l.length ≤ 3000) (hN : NI l) : Pa (ET l) Gn := by
 unfold ET
 refine Pa.bind (SH l hl hN) fun g _ hg => Pa.cond (Pa.ret hg) ?_
 refine Pa.loop (fun i => 0 ≤ i) (fun i hi => ?_) (by show (0 : Int) ≤ 0; omega)
 unfold Gj
 refine Pa.condB (fun hlt => ?_) (fun _ => Pa.map (Pa.ret hg))
 have := of_decide_eq_true hlt
 exact Pa.any fun _ => Pa.cond (Pa.map (Pa.ret hi)) (Pa.ret (by show 0 ≤ w64 (i + 1); rw [w64i (by omega) (by omega)]; omega))
end Go.Ab
end
section
namespace Go.Ab
set_option linter.unusedVariables false
theorem Rn (op : Int) : Es op = some (if op = 19 then 2 else if tgB op = true then 1 else 0) := by
 unfold Es BT tgB
 by_cases h : op = 19
 · rw [beqt h,if_pos h]; rfl
 · rw [beqf h,if_neg h]
   cases op == 6 <;> cases op == 7 <;> cases op == 8 <;> cases op == 20 <;> cases op == 21 <;> cases op == 22 <;> rfl
def BdI (x : Ac) : Prop := (x.Op = 19 → -1000000 ≤ x.B ∧ x.B ≤ 1000000) ∧ (tgB x.Op = true → -1000000 ≤ x.A ∧ x.A ≤ 1000000)
theorem Nd (l : List Ac) (hl : l.length ≤ 100000) (b : Int) (b0 : -1000000 ≤ b) (b1 : b ≤ 1000000) (hb : ∀ x ∈ l,BdI x) : Ch l b = some (l.map (absI b)) := by
 unfold Ch
 have key := Ln (step := fun s : (Int × (List Ac)) => Cx l b s.1 s.2) (fun k => ((k : Int),(l.take k).map (absI b))) l.length (r := l.map (absI b)) (fun k hk => ?_) ?_
 · simpa using key
 · show Cx l b k ((l.take k).map (absI b)) = _
   unfold Cx
   rw [dct (by omega),Gw hk]
   obtain ⟨h1,h2⟩ := hb l[k] (List.getElem_mem _)
   rw [HY hk,List.map_append]
   generalize l[k] = x at h1 h2
   have g : ∀ p q : Int,Bt k ((l.take k).map (absI b)) x p q = some (.inl (((k + 1 : Nat) : Int),(l.take k).map (absI b) ++ [⟨x.Op,p,q⟩])) := fun p q => by
    unfold Bt
    rw [JF (by simp; omega),w64s (by omega)]
   show ((Es x.Op).bind _) = _
   rw [Rn]
   show cond ((if x.Op = 19 then (2 : Int) else if tgB x.Op = true then 1 else 0) == 1) _ (cond ((if x.Op = 19 then (2 : Int) else if tgB x.Op = true then 1 else 0) == 2) _ _) = _
   by_cases h : x.Op = 19
   · rw [if_pos h]
     have := h1 h
     show Bt k _ x x.A (w64 (x.B + b)) = _
     rw [g,w64i (by omega) (by omega)]
     simp [absI,h]
   · rw [if_neg h]
     by_cases h' : tgB x.Op = true
     · rw [if_pos h']
       have := h2 h'
       show Bt k _ x (w64 (x.A + b)) x.B = _
       rw [g,w64i (by omega) (by omega)]
       simp [absI,h,h']
     · rw [if_neg h']
       show Bt k _ x x.A x.B = _
       rw [g]
       simp [absI,h,h']
 · show Cx l b l.length ((l.take l.length).map (absI b)) = _
   unfold Cx
   rw [dcf (by omega),List.take_length]; rfl
theorem QG (l : List Ac) (hl : l.length ≤ 100000) (b : Int) (b0 : -1000000 ≤ b) (b1 : b ≤ 1000000) (hb : ∀ x ∈ l,BdI x) : GH b l = some (l.map (absI b)) := Nd l hl b b0 b1 hb
theorem KU (a b : List Ac) (ha : a.length ≤ 100000) (hl : b.length ≤ 100000) (hb : ∀ x ∈ b,BdI x) : Ar a b = some (a ++ b.map (absI a.length)) := by
 unfold Ar
 rw [JF (by simp; omega),Nd b hl a.length (by omega) (by omega) hb]
 show grd _ _ = _
 rw [JF (by simp; omega)]; rfl
def BdR (x : Ac) : Prop := (x.Op = 19 → -100000 ≤ x.B ∧ x.B ≤ 100000) ∧ (tgB x.Op = true → -100000 ≤ x.A ∧ x.A ≤ 100000)
structure RB (M : List An) : Prop where
 len : M.length ≤ 50000
 bd : ∀ a ∈ M,BdR a.1
theorem absI_bd {x : Ac} {k : Int} (h : BdR x) (h0 : 0 ≤ k) (h1 : k ≤ 200000) : BdI (absI k x) := by
 unfold BdI
 rw [absI_op]
 unfold absI
 refine ⟨fun ho => ?_,fun ht => ?_⟩
 · rw [if_pos ho]
   have := h.1 ho
   show -1000000 ≤ x.B + k ∧ x.B + k ≤ 1000000
   omega
 · have hn : ¬ x.Op = 19 := fun e => by rw [e] at ht; cases ht
   rw [if_neg hn,if_pos ht]
   have := h.2 ht
   show -1000000 ≤ x.A + k ∧ x.A + k ≤ 1000000
   omega
theorem absL_bd : ∀ (M : List An) (k : Int),(∀ a ∈ M,BdR a.1) → 0 ≤ k → k + M.length ≤ 200000 → ∀ x ∈ absL k M,BdI x
 | [],_,_,_,_,x,hx => by cases hx
 | a :: M,k,h,h0,h1,x,hx => by
   simp only [List.length_cons] at h1
   rcases List.mem_cons.mp hx with rfl | hx
   · exact absI_bd (h a (by simp)) h0 (by omega)
   · exact absL_bd M (k + 1) (fun b hb => h b (by simp [hb])) (by omega) (by omega) x hx
theorem MJ (M N : List An) (hM : M.length ≤ 50000) (hN : RB N) : Ar (absL 0 M) (absL 0 N) = some (absL 0 (M ++ N)) := by
 have := hN.len
 rw [KU _ _ (by rw [BK]; omega) (by rw [BK]; omega) (absL_bd N 0 hN.bd (by omega) (by omega)),BK,Ji,IL]
theorem R6 (M N : List An) (hM : M.length ≤ 50000) (hN : RB N) : A1 (absL 0 M) (absL 0 N) = some (absL 0 (M ++ N)) := MJ M N hM hN
theorem R5 (M N : List An) (hM : M.length ≤ 50000) (hN : RB N) : AF (absL 0 M) (absL 0 N) = some (absL 0 (M ++ N)) := MJ M N hM hN
theorem Pr (M N : List An) (hM : M.length ≤ 50000) (hN : RB N) : A0 (absL 0 N) (absL 0 M) = some (absL 0 (M ++ N)) := MJ M N hM hN
theorem RB.app {M N : List An} (h : RB M) (h2 : RB N) (hl : (M ++ N).length ≤ 50000) : RB (M ++ N) :=
 ⟨hl,fun a ha => (List.mem_append.mp ha).elim (h.bd a) (h2.bd a)⟩
theorem RB.one {x : Ac} (s : Sp) (h : BdR x) : RB [(x,s)] := ⟨by show 1 ≤ 50000; omega,fun a ha => by simp at ha; subst ha; exact h⟩
theorem bdR_plain {x : Ac} (h1 : x.Op ≠ 19) (h2 : tgB x.Op = false) : BdR x := ⟨fun h => absurd h h1,fun h => by rw [h2] at h; cases h⟩
theorem Fw.bd {Q : List An} {o : Sp} {d : Int} {φ : Sp → Prop} (h : Fw Q o d φ) : 1 ≤ d ∧ d ≤ Q.length + 1 := by
 obtain ⟨Q1,Q2,rfl,h2,_⟩ := h
 rw [List.length_append]; omega
theorem Ok1.bd {e : Ev} {P Q : List An} {o : Sp} {x : Ac} {s : Sp} (h : Ok1 e P Q o x s) (hp : P.length ≤ 50000) (hq : Q.length ≤ 50000) : BdR x := by
 cases h with
 | mark a r h => exact bdR_plain (by simp) rfl
 | str x t n c h hn => cases h <;> exact bdR_plain (by simp) rfl
 | act x t h hn => cases h <;> exact bdR_plain (by simp) rfl
 | stop => exact bdR_plain (by simp) rfl
 | choose h => exact bdR_plain (by simp) rfl
 | select => exact bdR_plain (by simp) rfl
 | zero op d n c ho h hf =>
   have := hf.bd
   exact ⟨fun h => (by rcases ho with rfl | rfl <;> cases h),fun _ => by show -100000 ≤ d ∧ d ≤ 100000; omega⟩
 | jump d n c r hf =>
   have := hf.bd
   exact ⟨fun h => (by cases h),fun _ => by show -100000 ≤ d ∧ d ≤ 100000; omega⟩
 | back d P1 P2 a hP ha hd =>
   have hl := congrArg List.length hP
   rw [List.length_append,List.length_cons] at hl
   exact ⟨fun h => (by cases h),fun _ => by show -100000 ≤ d ∧ d ≤ 100000; omega⟩
 | chs x t d h hn hf =>
   have := hf.bd
   cases h with
   | recv a h0 h1 => exact ⟨fun _ => (by show -100000 ≤ d ∧ d ≤ 100000; omega),fun h => by cases h⟩
   | _ => exact ⟨fun h => (by cases h),fun _ => by show -100000 ≤ d ∧ d ≤ 100000; omega⟩
theorem WF.rb {e : Ev} {M P Q : List An} {o : Sp} (h : WF e P M Q o) (hl : P.length + M.length + Q.length ≤ 50000) : RB M := by
 refine ⟨by omega,fun a ha => ?_⟩
 obtain ⟨k,hk,rfl⟩ := List.getElem_of_mem ha
 refine (WF.get M P Q h k hk).1.bd ?_ ?_
 · rw [List.length_append,List.length_take]; omega
 · rw [List.length_append,List.length_drop]; omega
theorem Frag.rb {e : Ev} {M : List An} {s o : Sp} (h : Frag e M s o) (hl : M.length ≤ 50000) : RB M := h.wf.rb (by simp; omega)
def mkM (M : List An) : List Int := (M.filter fun a => a.1.Op == 1).map fun a => a.1.A
theorem D9 (M N : List An) : mkM (M ++ N) = mkM M ++ mkM N := by unfold mkM; rw [List.filter_append,List.map_append]
theorem IS {x : Ac} (s : Sp) (h : x.Op ≠ 1) : mkM [(x,s)] = [] := by unfold mkM; simp [h]
theorem Je {x : Ac} (s : Sp) (M : List An) (h : x.Op ≠ 1) : mkM ((x,s) :: M) = mkM M := by
 rw [show (x,s) :: M = [(x,s)] ++ M from rfl,D9,IS s h]; rfl
theorem JH (k : Int) (x : Ac) (s : Sp) : absL k [(x,s)] = [absI k x] := rfl
end Go.Ab
end
