/- Slices, indices of values, lengths, parts, comparisons of pointers and bools. -/
import Derived.Test.YtgldclhdieafkaaGreatAbStep6
namespace Go.Ab
open Go.RowKit
def sAt (s : ByteArray) (i : Int) : Option Int := if 0 ≤ i then (s[i.toNat]?).map (fun c => (c.toNat : Int)) else none
def DP : Option PV → Int → Option Int
 | none,n => some n
 | some (.d (.int _ n)),_ => some n
 | _,_ => none
def cutD (sz n : Nat) (xs : List D) (l h : Int) (m : Option Int) : PV × List Prop :=
 match m with
 | none => (.d (.list false (h - l).toNat ((xs.drop (l.toNat * sz)).take ((h - l).toNat * sz))),[0 ≤ l ∧ l ≤ h ∧ h ≤ n])
 | some m => (.d (.list true (h - l).toNat ((xs.drop (l.toNat * sz)).take ((h - l).toNat * sz))),[0 ≤ l ∧ l ≤ h ∧ h ≤ n ∧ m = h])
def Re (P : Program) (T : TypeId) (x : PV) (lo hi mx : Option PV) (σ : List AObj) : Option Out :=
 match P.underlying T,x with
 | some .string,.d (.str s) =>
   match mx,DP lo 0,DP hi s.size with
   | none,some l,some h => some ⟨.d (.str (s.extract l.toNat h.toNat)),σ,none,[0 ≤ l ∧ l ≤ h ∧ h ≤ s.size]⟩
   | _,_,_ => none
 | some (.slice e),.d (.list _ n xs) =>
   match P.info? e,DP lo 0,DP hi n,mx.isSome,DP mx 0 with
   | some info,some l,some h,b,some m =>
     if b && hi.isNone then none
     else some ⟨(cutD info.size n xs l h (if b then some m else none)).1,σ,none,(cutD info.size n xs l h (if b then some m else none)).2⟩
   | _,_,_,_,_ => none
 | some (.slice e),.row i n =>
   match σ[i]? with
   | some (.row _ _ cs) =>
     match P.info? e,DP lo 0,DP hi n,mx.isSome,DP mx 0 with
     | some info,some l,some h,b,some m =>
       if b && hi.isNone then none
       else some ⟨(cutD info.size n cs l h (if b then some m else none)).1,(σ.map (AObj.sub i fun n => .d (.list false n cs))).set i .dead,some (i,fun n => .d (.list false n cs)),(cutD info.size n cs l h (if b then some m else none)).2⟩
     | _,_,_,_,_ => none
   | _ => none
 | _,_ => none
def Rg (P : Program) (T : TypeId) (x ix : PV) (σ : List AObj) (orc : Orc) : Option Out :=
 match P.underlying T,x,ix with
 | some .string,.d (.str s),.d (.int _ i) =>
   match orc with
   | .val (.int .u8 b) => some ⟨.d (.int .u8 b),σ,none,[sAt s i = some b]⟩
   | _ => none
 | some (.array len e),.dagg cs,.d (.int _ i) =>
   match P.info? e,P.underlying e,orc with
   | some info,some desc,.val y => if isAggD desc || info.size != 1 then none else some ⟨.d y,σ,none,[H9 i len,cs[i.toNat]? = some y]⟩
   | some info,some desc,.cells xs => if isAggD desc then some ⟨.agg (xs.map .d),σ,none,[H9 i len,CellsAt cs (i.toNat * info.size) info.size xs]⟩ else none
   | _,_,_ => none
 | some (.array len e),.agg cs,.d (.int _ i) =>
   match P.info? e,P.underlying e with
   | some info,some desc =>
     if isAggD desc then some ⟨.agg ((cs.drop (i.toNat * info.size)).take info.size),σ,none,[H9 i len,i.toNat * info.size + info.size ≤ cs.length]⟩
     else match orc with
      | .val (.int _ m) => match cs[m.toNat * info.size]? with
        | some y => some ⟨y,σ,none,[i = m,H9 i len]⟩
        | none => none
      | _ => match cs[i.toNat * info.size]? with
        | some y => some ⟨y,σ,none,[H9 i len]⟩
        | none => none
   | _,_ => none
 | _,_,_ => none
def Ri (P : Program) (T : TypeId) (x : PV) (f : Nat) (σ : List AObj) : Option Out :=
 match P.underlying T,x with
 | some (.struct fields),.agg cs =>
   match fields[f]? with
   | some fld =>
     match P.info? fld.type,P.underlying fld.type with
     | some info,some desc =>
       if isAggD desc then
        if fld.offset + info.size ≤ cs.length then some ⟨.agg ((cs.drop fld.offset).take info.size),σ,none,[]⟩ else none
       else match cs[fld.offset]? with
        | some y => some ⟨y,σ,none,[]⟩
        | none => none
     | _,_ => none
   | none => none
 | _,_ => none
def Ny (x : PV) (k : Nat) (σ : List AObj) : Option Out :=
 match x with
 | .tup vs => match vs[k]? with
   | some y => some ⟨y,σ,none,[]⟩
   | none => none
 | _ => none
def MB (x : PV) (σ : List AObj) : Option Out :=
 match x with
 | .ptr _ _ | .pp _ => some ⟨x,σ,none,[]⟩
 | .fn (.func _) _ _ => some ⟨x,σ,none,[]⟩
 | _ => none
def aLen (P : Program) (t : TypeId) (x : PV) (σ : List AObj) : Option Out :=
 match P.underlying t,x with
 | some .string,.d (.str s) => some ⟨.d (.int .i64 s.size),σ,none,[]⟩
 | some (.slice _),.d (.list _ n _) => some ⟨.d (.int .i64 n),σ,none,[]⟩
 | some (.slice _),.row _ n => some ⟨.d (.int .i64 n),σ,none,[]⟩
 | some (.slice _),.view _ _ n => some ⟨.d (.int .i64 n),σ,none,[]⟩
 | some (.array n _),_ => some ⟨.d (.int .i64 n),σ,none,[]⟩
 | _,_ => none
def aMax (mx : Bool) (x y : PV) (σ : List AObj) : Option Out :=
 match x,y with
 | .d (.int k a),.d (.int _ b) => some ⟨.d (.int k (if mx then (if b > a then b else a) else (if b < a then b else a))),σ,none,[]⟩
 | _,_ => none
def aEq (P : Program) (op : BinOp) (T : TypeId) (x y : PV) : Option (PV × List Prop) :=
 match P.underlying T with
 | some (.pointer _) =>
   match op,x,y with
   | .eql,.ptr _ _,.d .nilP => some (.d (.bool false),[])
   | .neq,.ptr _ _,.d .nilP => some (.d (.bool true),[])
   | .eql,.d .nilP,.d .nilP => some (.d (.bool true),[])
   | .neq,.d .nilP,.d .nilP => some (.d (.bool false),[])
   | _,_,_ => none
 | some (.func _ _ _) =>
   match op,x,y with
   | .eql,.fn _ _ _,.d .nilF => some (.d (.bool false),[])
   | .neq,.fn _ _ _,.d .nilF => some (.d (.bool true),[])
   | _,_,_ => none
 | some .bool =>
   match op,x,y with
   | .eql,.d (.bool a),.d (.bool b) => some (.d (.bool (a == b)),[])
   | .neq,.d (.bool a),.d (.bool b) => some (.d (.bool !(a == b)),[])
   | _,_,_ => none
 | _ => none
section
variable {P : Program} {E : Entry} {w : World} {hz : Hp} {φ : Phi} {σ : List AObj}
theorem Im {x : Value} {k : IntKind} {i : Int} {y : Nat} (code : BoundsCode) (hx : x = .int k i) (h0 : 0 ≤ i) (h1 : i ≤ y) : (Instr.sliceBound x y code).run P w = .ok i.toNat w := by
 subst hx
 simp [Instr.sliceBound,asIntOf,h0,h1]
theorem IP {isSlice : Bool} {len cap : Nat} {lo hi mx : Option Value} {plo phi pmx : Option PV} {l h m : Int} (hlo : ∀ v,lo = some v → ∃ x,plo = some x ∧ RelV hz φ v x) (hhi : ∀ v,hi = some v → ∃ x,phi = some x ∧ RelV hz φ v x)
    (hmx : ∀ v,mx = some v → ∃ x,pmx = some x ∧ RelV hz φ v x) (nlo : lo = none → plo = none) (nhi : hi = none → phi = none) (nmx : mx = none → pmx = none)
    (el : DP plo 0 = some l) (eh : DP phi len = some h) (em : DP pmx cap = some m) (hb : mx.isSome = true → hi.isSome = true) (h0 : 0 ≤ l) (h1 : l ≤ h) (h2 : h ≤ m) (h3 : m ≤ cap) :
    (Instr.sliceBounds isSlice len cap lo hi mx).run P w = .ok (l.toNat,h.toNat,m.toNat) w := by
 have inv : ∀ {v : Value} {x : PV} {d n : Int},RelV hz φ v x → DP (some x) d = some n → ∃ k,v = .int k n := by
  intro v x d n hr hx
  cases x with
  | d y => cases y with
    | int k n' => simp [DP] at hx; subst hx; exact ⟨k,hr.inv_int⟩
    | _ => simp [DP] at hx
  | _ => simp [DP] at hx
 have sl : ∀ (y : Nat) (code : BoundsCode) (w : World),l ≤ y → (match lo with | some v => Instr.sliceBound v y code | none => pure 0).run P w = .ok l.toNat w := by
  intro y code w hy
  cases hlo' : lo with
  | none => rw [nlo hlo'] at el; simp [DP] at el; subst el; rfl
  | some v => obtain ⟨x,hx,hr⟩ := hlo v hlo'; subst hx; obtain ⟨k,hk⟩ := inv hr el; exact Im code hk h0 hy
 unfold Instr.sliceBounds
 cases hmx' : mx with
 | none =>
   rw [nmx hmx'] at em
   simp [DP] at em; subst em
   simp only [Sem.run_bind,Sem.run_pure,Result.andThen_ok]
   cases hhi' : hi with
   | none =>
     rw [nhi hhi'] at eh
     simp [DP] at eh; subst eh
     simp only [Sem.run_bind,Sem.run_pure,Result.andThen_ok]
     have := sl len .sliceB w h1
     cases hlo' : lo with
     | none => rw [hlo'] at this; simp at this; simp [this]
     | some v => rw [hlo'] at this; simp at this; simp [this]
   | some v =>
     obtain ⟨x,hx,hr⟩ := hhi v hhi'
     subst hx
     obtain ⟨k,hk⟩ := inv hr eh
     have e2 := Im (P := P) (w := w) (if isSlice then .sliceAcap else .sliceAlen) hk (by omega) h2
     simp only [Sem.run_bind,e2,Result.andThen_ok]
     have := sl h.toNat .sliceB w (by omega)
     cases hlo' : lo with
     | none => rw [hlo'] at this; simp at this; simp [this]
     | some v => rw [hlo'] at this; simp at this; simp [this]
 | some vm =>
   obtain ⟨xm,hxm,hrm⟩ := hmx vm hmx'
   subst hxm
   obtain ⟨km,hkm⟩ := inv hrm em
   have e3 := Im (P := P) (w := w) (if isSlice then .slice3Acap else .slice3Alen) hkm (by omega) h3
   simp only [Sem.run_bind,e3,Result.andThen_ok]
   cases hhi' : hi with
   | none => rw [hhi',hmx'] at hb; simp at hb
   | some v =>
     obtain ⟨x,hx,hr⟩ := hhi v hhi'
     subst hx
     obtain ⟨k,hk⟩ := inv hr eh
     have e2 := Im (P := P) (w := w) (y := m.toNat) .slice3B hk (by omega) (by omega)
     simp only [Sem.run_bind,e2,Result.andThen_ok]
     have := sl h.toNat .slice3C w (by omega)
     cases hlo' : lo with
     | none => rw [hlo'] at this; simp at this; simp [this]
     | some v => rw [hlo'] at this; simp at this; simp [this]
structure Gx (hz : Hp) (φ : Phi) (v : Option Value) (x : Option PV) : Prop where
 some_ : ∀ a,v = some a → ∃ b,x = some b ∧ RelV hz φ a b
 none_ : v = none → x = none
theorem Gx.isSome {v : Option Value} {x : Option PV} (h : Gx hz φ v x) : v.isSome = x.isSome := by
 cases v with
 | none => rw [h.none_ rfl]; rfl
 | some a => obtain ⟨b,hb,_⟩ := h.some_ a rfl; rw [hb]; rfl
theorem QY {T e : TypeId} {info : TypeInfo} (hu : P.underlying T = some (.slice e)) (hi : P.info? e = some info) {v : Value} {tight : Bool} {n : Nat} {xs : List D} (hx : RelD hz v (.list tight n xs)) {lo hi' mx : Option Value} {plo phi pmx : Option PV}
    (rlo : Gx hz φ lo plo) (rhi : Gx hz φ hi' phi) (rmx : Gx hz φ mx pmx) {l h m : Int} (el : DP plo 0 = some l) (eh : DP phi n = some h) (em : DP pmx 0 = some m) (hb : ¬ (pmx.isSome = true ∧ phi.isNone = true))
    (ho : ∀ p ∈ (cutD info.size n xs l h (if pmx.isSome then some m else none)).2,p) :
    ∃ v',(Instr.sliceAt T v lo hi' mx).run P w = .ok v' w ∧ RelV hz φ v' (cutD info.size n xs l h (if pmx.isSome then some m else none)).1 := by
 have hcap : ∃ a cap,v = .slice a n cap ∧ n ≤ cap ∧ cap ≤ maxLen := by
  cases hx with
  | list0 a cap _ _ hm => exact ⟨a,cap,rfl,Nat.zero_le _,hm⟩
  | list g off _ cap _ _ arr e fr f hg hn hm => exact ⟨_,cap,rfl,hn,hm⟩
 obtain ⟨a,cap,rfl,hnc,hcm⟩ := hcap
 have bounds : 0 ≤ l ∧ l ≤ h ∧ h ≤ n ∧ (pmx.isSome = true → m = h) := by
  cases hp : pmx with
  | none => rw [hp] at ho; have := ho _ (by simp [cutD]; rfl); exact ⟨this.1,this.2.1,this.2.2,fun e => by cases e⟩
  | some y => rw [hp] at ho; have := ho _ (by simp [cutD]; rfl); exact ⟨this.1,this.2.1,this.2.2.1,fun _ => this.2.2.2⟩
 obtain ⟨b0,b1,b2,b3⟩ := bounds
 have main : ∀ mm : Nat,DP pmx cap = some (mm : Int) → h ≤ mm → (mm : Int) ≤ cap → (pmx.isSome = true → (mm : Int) = h) → ∃ v',(Instr.sliceAt T (.slice a n cap) lo hi' mx).run P w = .ok v' w ∧ RelV hz φ v' (cutD info.size n xs l h (if pmx.isSome then some m else none)).1 := by
  intro mm emm hm1 hm2 hm3
  have hsb := IP (P := P) (w := w) (hz := hz) (φ := φ) (isSlice := true) (len := n) (cap := cap) rlo.some_ rhi.some_ rmx.some_ rlo.none_ rhi.none_ rmx.none_ el eh emm
   (by rw [rmx.isSome,rhi.isSome]; intro hh; cases hq : phi with
       | none => exact absurd ⟨hh,by rw [hq]; rfl⟩ hb
       | some _ => rfl) b0 b1 hm1 hm2
  have hrun : (Instr.sliceAt T (.slice a n cap) lo hi' mx).run P w = .ok (.slice (if mm = l.toNat then a else a.map (·.add (l.toNat * info.size))) (h.toNat - l.toNat) (mm - l.toNat)) w := by
   unfold Instr.sliceAt
   rw [Sem.run_bind,run_underlying hu]
   simp only [Result.andThen_ok]
   unfold Instr.slice
   rw [Sem.run_bind,run_underlying hu]
   simp only [Result.andThen_ok]
   rw [Sem.run_bind,hsb]
   simp only [Result.andThen_ok]
   rw [Sem.run_bind,show (sizeOf e).run P w = .ok info.size w by simp [sizeOf,typeInfo,hi]]
   simp
  refine ⟨_,hrun,?_⟩
  have hlen : h.toNat - l.toNat = (h - l).toNat := by omega
  rw [hlen]
  have key : ∀ t2 : Bool,(t2 = true → mm - l.toNat = (h - l).toNat) →
      RelV hz φ (.slice (if mm = l.toNat then a else a.map (·.add (l.toNat * info.size))) (h - l).toNat (mm - l.toNat)) (.d (.list t2 (h - l).toNat ((xs.drop (l.toNat * info.size)).take ((h - l).toNat * info.size)))) := by
   intro t2 ht2
   by_cases hz0 : (h - l).toNat = 0
   · rw [hz0]
     simp only [Nat.zero_mul,List.take_zero]
     exact .d (.list0 _ _ _ (fun e => by have := ht2 e; omega) (by unfold maxLen at *; omega))
   · rw [if_neg (by omega)]
     cases hx with
     | list0 => omega
     | list g off _ _ _ _ arr e2 fr f hg hn hm ht hx2 hr2 =>
       simp only [Option.map_some,GW]
       refine .d (.list g _ _ _ t2 _ arr e2 fr (fun j => f (l.toNat * info.size + j)) hg (by omega) (by unfold maxLen at *; omega) ht2 (fun j y hj => ?_) (fun j y hj => ?_))
       · rw [List.getElem?_take] at hj
         split at hj
         · rw [List.getElem?_drop] at hj
           have := hx2 _ y hj
           rwa [← Nat.add_assoc] at this
         · cases hj
       · rw [List.getElem?_take] at hj
         split at hj
         · rw [List.getElem?_drop] at hj
           exact hr2 _ y hj
         · cases hj
  cases hp : pmx with
  | none => simp only [Option.isSome_none,Bool.false_eq_true,if_false,cutD]; exact key false (fun e => by cases e)
  | some y =>
    simp only [Option.isSome_some,if_true,cutD]
    exact key true (fun _ => by have := hm3 (by rw [hp]; rfl); omega)
 cases hp : pmx with
 | none =>
   have := main cap (by rw [hp]; rfl) (by omega) (by omega) (by rw [hp]; intro e; cases e)
   rwa [hp] at this
 | some y =>
   have em' : DP pmx cap = some m := by
    rw [hp] at em ⊢
    cases y with
    | d z => cases z with
      | int k n' => simpa [DP] using em
      | _ => simp [DP] at em
    | _ => simp [DP] at em
   have hmh := b3 (by rw [hp]; rfl)
   have := main m.toNat (by rw [em']; congr 1; omega) (by omega) (by omega) (fun _ => by omega)
   rwa [hp] at this
theorem OU {T : TypeId} {x : PV} {v : Value} {lo hi mx : Option Value} {plo phi pmx : Option PV} {out : Out} (hM : Mem E hz φ σ w) (hx : RelV hz φ v x) (rlo : Gx hz φ lo plo) (rhi : Gx hz φ hi phi) (rmx : Gx hz φ mx pmx)
    (h : Re P T x plo phi pmx σ = some out) (ho : ∀ p ∈ out.obl,p) : Good P E (do pure (.value (← Instr.sliceAt T v lo hi mx))) w hz φ out := by
 unfold Re at h
 split at h
 · rename_i s hu
   split at h
   · rename_i l h' el eh
     simp only [Option.some.injEq] at h; subst h
     obtain ⟨b0,b1,b2⟩ := ho _ (List.mem_singleton.2 rfl)
     have := hx.inv_str; subst this
     have hm0 : mx = none := by
      cases hq : mx with
      | none => rfl
      | some y => obtain ⟨z,hz1,_⟩ := rmx.some_ y hq; cases hz1
     subst hm0
     have hsb := IP (P := P) (w := w) (hz := hz) (φ := φ) (isSlice := false) (len := s.size) (cap := s.size) (mx := none) (pmx := none) rlo.some_ rhi.some_ (by simp) rlo.none_ rhi.none_ (by simp) el eh rfl (by simp) b0 b1 b2 (Int.le_refl _)
     refine good_v hM (v := .string (s.extract l.toNat h'.toNat)) ?_ (.d (.str _))
     unfold Instr.sliceAt
     rw [Sem.run_bind,run_underlying hu]
     simp only [Result.andThen_ok]
     unfold Instr.slice
     rw [Sem.run_bind,run_underlying hu]
     simp only [Result.andThen_ok,Option.isSome_none,Bool.false_eq_true,if_false]
     rw [Sem.run_bind]
     simp only [Sem.run_pure]
     rw [hsb]
     rfl
   · cases h
 · rename_i e tight n xs hu
   split at h
   · rename_i info l h' m hi' el eh em
     split at h
     · cases h
     · rename_i hb
       simp only [Option.some.injEq] at h; subst h
       cases hx with
       | d hd =>
       obtain ⟨v',h1,h2⟩ := QY (P := P) (w := w) hu hi' hd rlo rhi rmx el eh em (by simpa using hb) ho
       exact good_v hM h1 h2
   · cases h
 · rename_i e i n hu
   split at h
   · rename_i e2 sz cs hobj
     split at h
     · rename_i info l h' m hi' el eh em
       split at h
       · cases h
       · rename_i hb
         simp only [Option.some.injEq] at h; subst h
         obtain ⟨hz',hle,hrow,hM'⟩ := hM.settle hobj
         have hx' := relV_d (hrow n v hx)
         have tr : ∀ u x,RelV hz φ u x → RelV hz' φ u (x.sub i fun n => .d (.list false n cs)) := fun u x hr => RelV.sub hle (fun _ _ _ h => h) hrow hr
         have opt : ∀ {v : Option Value} {x : Option PV},Gx hz φ v x → ∀ {d k : Int},DP x d = some k → Gx hz' φ v x := by
          intro v x r d k hk
          refine ⟨fun a ha => ?_,r.none_⟩
          obtain ⟨b,hb,hr⟩ := r.some_ a ha
          subst hb
          refine ⟨b,rfl,?_⟩
          cases b with
          | d y => exact .d ((relV_d hr).mono hle)
          | _ => simp [DP] at hk
         obtain ⟨v',h1,h2⟩ := QY (P := P) (w := w) hu hi' hx' (opt rlo el) (opt rhi eh) (opt rmx em) el eh em (by simpa using hb) ho
         exact ⟨_,v',w,hz',φ,by rw [Sem.run_bind,h1]; rfl,.inl rfl,hM',h2,tr⟩
     · cases h
   · cases h
 · cases h
theorem part_run {t : TypeId} {desc : TypeDesc} {info : TypeInfo} (hu : P.underlying t = some desc) (hi : P.info? t = some info) {arr : Array Value} {cs : List PV} {off : Nat} (hs : arr.size = cs.length) (hr : G8 hz φ arr cs) :
    (isAggD desc = true → off + info.size ≤ cs.length → ∃ v,(part t arr off).run P w = .ok v w ∧ RelV hz φ v (.agg ((cs.drop off).take info.size))) ∧
    (isAggD desc = false → ∀ y,cs[off]? = some y → ∃ v,(part t arr off).run P w = .ok v w ∧ RelV hz φ v y) := by
 have hagg : (isAgg t).run P w = .ok (isAggD desc) w := by
  unfold isAgg
  rw [Sem.run_bind,run_underlying hu]
  cases desc <;> rfl
 constructor
 · intro ha hl
   refine ⟨.agg (arr.extract off (off + info.size)),?_,?_⟩
   · unfold part
     rw [Sem.run_bind,hagg]
     simp only [Result.andThen_ok,ha,if_true]
     rw [Sem.run_bind,show (sizeOf t).run P w = .ok info.size w by simp [sizeOf,typeInfo,hi]]
     rfl
   · refine .agg _ _ (by simp; omega) ?_
     intro j y hj
     rw [List.getElem?_take] at hj
     split at hj
     · rename_i hjn
       rw [List.getElem?_drop] at hj
       rw [HU (by omega) hjn]
       exact hr _ y hj
     · cases hj
 · intro ha y hy
   have hlt : off < arr.size := by rw [hs]; exact AL hy
   refine ⟨arr[off],?_,?_⟩
   · unfold part
     rw [Sem.run_bind,hagg]
     simp only [Result.andThen_ok,ha,Bool.false_eq_true,if_false]
     rw [Array.getElem?_eq_getElem hlt]
     rfl
   · have := hr off y hy
     simpa [Array.getD_eq_getD_getElem?,hlt] using this
theorem OZ {T : TypeId} {x ix : PV} {v u : Value} {orc : Orc} {out : Out} (hM : Mem E hz φ σ w) (hx : RelV hz φ v x) (hi : RelV hz φ u ix) (h : Rg P T x ix σ orc = some out) (ho : ∀ p ∈ out.obl,p) :
    Good P E (do pure (.value (← Instr.index T v u))) w hz φ out := by
 unfold Rg at h
 split at h
 · rename_i s k i hu
   split at h
   · rename_i b
     simp only [Option.some.injEq] at h; subst h
     have o1 := ho _ (List.mem_singleton.2 rfl)
     have := hx.inv_str; subst this
     have := hi.inv_int; subst this
     unfold sAt at o1
     split at o1
     · rename_i h0
       obtain ⟨c,hc,rfl⟩ := Option.map_eq_some_iff.1 o1
       refine good_v hM ?_ (.d (.int .u8 c.toNat))
       unfold Instr.index
       simp only [asIntOf,Sem.run_bind,Sem.run_pure,Result.andThen_ok,run_underlying hu,h0,if_true,hc]
     · cases o1
   · cases h
 · rename_i len e cs k i hu
   split at h
   · rename_i info desc y hi2 hu2
     split at h
     · cases h
     · rename_i hc
       simp only [Option.some.injEq] at h; subst h
       have o1 : H9 i len := ho _ (by simp)
       have o2 : cs[i.toNat]? = some y := ho _ (by simp)
       have := hi.inv_int; subst this
       simp at hc
       cases hx with
       | dagg arr _ hs hr =>
       obtain ⟨v,h1,h2⟩ := (part_run (P := P) (w := w) (hz := hz) (φ := φ) (off := i.toNat * info.size) hu2 hi2 (arr := arr) (cs := cs.map PV.d) (by simpa using hs) (fun j x hj => by
        rw [List.getElem?_map] at hj
        cases hq : cs[j]? with
        | none => rw [hq] at hj; cases hj
        | some z => rw [hq] at hj; simp at hj; subst hj; exact .d (hr j z hq))).2 hc.1 (.d y) (by rw [hc.2,Nat.mul_one]; simp [o2])
       refine good_v hM (v := v) ?_ h2
       unfold Instr.index
       simp only [asIntOf,Sem.run_bind,Sem.run_pure,Result.andThen_ok,run_underlying hu]
       rw [if_pos ⟨o1.1,o1.2⟩]
       rw [Sem.run_bind,show (sizeOf e).run P w = .ok info.size w by simp [sizeOf,typeInfo,hi2]]
       exact h1
   · rename_i info desc xs hi2 hu2
     split at h
     · rename_i hc
       simp only [Option.some.injEq] at h; subst h
       have o1 : H9 i len := ho _ (by simp)
       have o2 : CellsAt cs (i.toNat * info.size) info.size xs := ho _ (by simp)
       have := hi.inv_int; subst this
       cases hx with
       | dagg arr _ hs hr =>
       obtain ⟨v,h1,h2⟩ := (part_run (P := P) (w := w) (hz := hz) (φ := φ) (off := i.toNat * info.size) hu2 hi2 (arr := arr) (cs := cs.map PV.d) (by simpa using hs) (fun j x hj => by
        rw [List.getElem?_map] at hj
        cases hq : cs[j]? with
        | none => rw [hq] at hj; cases hj
        | some z => rw [hq] at hj; simp at hj; subst hj; exact .d (hr j z hq))).1 hc (by simpa using o2.1)
       refine good_v hM (v := v) ?_ (by rw [← List.map_drop,← List.map_take,o2.2] at h2; exact h2)
       unfold Instr.index
       simp only [asIntOf,Sem.run_bind,Sem.run_pure,Result.andThen_ok,run_underlying hu]
       rw [if_pos ⟨o1.1,o1.2⟩]
       rw [Sem.run_bind,show (sizeOf e).run P w = .ok info.size w by simp [sizeOf,typeInfo,hi2]]
       exact h1
     · cases h
   · cases h
 · rename_i len e cs k i hu
   have := hi.inv_int; subst this
   split at h
   · rename_i info desc hi2 hu2
     have hrun : ∀ {arr : Array Value} {v : Value},H9 i len → (part e arr (i.toNat * info.size)).run P w = .ok v w → (Instr.index T (.agg arr) (.int k i)).run P w = .ok v w := by
      intro arr v hw h1
      unfold Instr.index
      simp only [asIntOf,Sem.run_bind,Sem.run_pure,Result.andThen_ok,run_underlying hu]
      rw [if_pos ⟨hw.1,hw.2⟩]
      rw [Sem.run_bind,show (sizeOf e).run P w = .ok info.size w by simp [sizeOf,typeInfo,hi2]]
      exact h1
     cases hx with
     | agg arr _ hs hr =>
     split at h
     · rename_i ha
       simp only [Option.some.injEq] at h; subst h
       have o1 : H9 i len := ho _ (by simp)
       have o2 : i.toNat * info.size + info.size ≤ cs.length := ho _ (by simp)
       obtain ⟨v,h1,h2⟩ := (part_run (P := P) (w := w) hu2 hi2 hs hr).1 ha o2
       exact good_v hM (hrun o1 h1) h2
     · rename_i ha
       split at h
       · rename_i k2 m
         split at h
         · rename_i y hy
           simp only [Option.some.injEq] at h; subst h
           have o0 : i = m := ho _ (by simp)
           have o1 : H9 i len := ho _ (by simp)
           subst o0
           obtain ⟨v,h1,h2⟩ := (part_run (P := P) (w := w) hu2 hi2 hs hr).2 (by simpa using ha) y hy
           exact good_v hM (hrun o1 h1) h2
         · cases h
       · split at h
         · rename_i y hy
           simp only [Option.some.injEq] at h; subst h
           have o1 : H9 i len := ho _ (by simp)
           obtain ⟨v,h1,h2⟩ := (part_run (P := P) (w := w) hu2 hi2 hs hr).2 (by simpa using ha) y hy
           exact good_v hM (hrun o1 h1) h2
         · cases h
   · cases h
 · cases h
theorem aField_good {T : TypeId} {x : PV} {v : Value} {f : Nat} {out : Out} (hM : Mem E hz φ σ w) (hx : RelV hz φ v x) (h : Ri P T x f σ = some out) :
    Good P E (do pure (.value (← Instr.field T v f))) w hz φ out := by
 unfold Ri at h
 split at h
 · rename_i fields cs hu
   split at h
   · rename_i fld hf
     split at h
     · rename_i info desc hi2 hu2
       cases hx with
       | agg arr _ hs hr =>
       have hrun : ∀ {v : Value},(part fld.type arr fld.offset).run P w = .ok v w → (Instr.field T (.agg arr) f).run P w = .ok v w := by
        intro v h1
        unfold Instr.field
        simp only [Sem.run_bind,run_underlying hu,Result.andThen_ok,hf,asAgg,Sem.run_pure]
        exact h1
       split at h
       · rename_i ha
         split at h
         · rename_i hl
           simp only [Option.some.injEq] at h; subst h
           obtain ⟨v,h1,h2⟩ := (part_run (P := P) (w := w) hu2 hi2 hs hr).1 ha hl
           exact good_v hM (hrun h1) h2
         · cases h
       · rename_i ha
         split at h
         · rename_i y hy
           simp only [Option.some.injEq] at h; subst h
           obtain ⟨v,h1,h2⟩ := (part_run (P := P) (w := w) hu2 hi2 hs hr).2 (by simpa using ha) y hy
           exact good_v hM (hrun h1) h2
         · cases h
     · cases h
   · cases h
 · cases h
theorem Nx {x : PV} {v : Value} {k : Nat} {out : Out} (hM : Mem E hz φ σ w) (hx : RelV hz φ v x) (h : Ny x k σ = some out) :
    Good P E (do pure (.value (← Instr.extract v k))) w hz φ out := by
 unfold Ny at h
 split at h
 · rename_i vs
   split at h
   · rename_i y hy
     simp only [Option.some.injEq] at h; subst h
     cases hx with
     | tup arr _ hs hr =>
     have hlt : k < arr.size := by rw [hs]; exact AL hy
     refine good_v hM (v := arr[k]) ?_ ?_
     · unfold Instr.extract
       simp only [Array.getElem?_eq_getElem hlt]
       rfl
     · have := hr k y hy
       simpa [Array.getD_eq_getD_getElem?,hlt] using this
   · cases h
 · cases h
theorem aLen_good {t : TypeId} {x : PV} {v : Value} {ty : TypeId} {out : Out} (hM : Mem E hz φ σ w) (hx : RelV hz φ v x) (h : aLen P t x σ = some out) :
    Good P E (do pure (.value (← Builtin.len_ #[t] ty #[v]))) w hz φ out := by
 unfold aLen at h
 split at h
 · rename_i s hu
   simp only [Option.some.injEq] at h; subst h
   have := hx.inv_str; subst this
   refine good_v hM (v := goInt s.size) ?_ (.d (.int _ _))
   simp [Builtin.len_,run_underlying hu]
 · rename_i e tight n xs hu
   simp only [Option.some.injEq] at h; subst h
   cases hx with
   | d hd =>
   have hv : ∃ a cap,v = .slice a n cap := by
    cases hd with
    | list0 a cap _ _ _ => exact ⟨a,cap,rfl⟩
    | list g off _ cap _ _ arr e fr f hg hn hm => exact ⟨_,cap,rfl⟩
   obtain ⟨a,cap,rfl⟩ := hv
   refine good_v hM (v := goInt n) ?_ (.d (.int _ _))
   simp [Builtin.len_,run_underlying hu]
 · rename_i e i n hu
   simp only [Option.some.injEq] at h; subst h
   have hv : ∃ a cap,v = .slice a n cap := by
    cases hx with
    | row => exact ⟨_,_,rfl⟩
    | rowNil => exact ⟨_,_,rfl⟩
   obtain ⟨a,cap,rfl⟩ := hv
   refine good_v hM (v := goInt n) ?_ (.d (.int _ _))
   simp [Builtin.len_,run_underlying hu]
 · rename_i e i off n hu
   simp only [Option.some.injEq] at h; subst h
   have hv : ∃ a cap,v = .slice a n cap := by
    cases hx with
    | view => exact ⟨_,_,rfl⟩
    | viewNil => exact ⟨_,_,rfl⟩
   obtain ⟨a,cap,rfl⟩ := hv
   refine good_v hM (v := goInt n) ?_ (.d (.int _ _))
   simp [Builtin.len_,run_underlying hu]
 · rename_i n e hu
   simp only [Option.some.injEq] at h; subst h
   refine good_v hM (v := goInt n) ?_ (.d (.int _ _))
   simp [Builtin.len_,run_underlying hu]
 · cases h
theorem aMax_good {mx : Bool} {x y : PV} {v u : Value} {ts : Array TypeId} {ty : TypeId} {out : Out} (hM : Mem E hz φ σ w) (hx : RelV hz φ v x) (hy : RelV hz φ u y) (h : aMax mx x y σ = some out) :
    Good P E (do pure (.value (← (if mx then Builtin.max_ ts ty #[v,u] else Builtin.min_ ts ty #[v,u])))) w hz φ out := by
 unfold aMax at h
 split at h
 · rename_i k a k' b
   simp only [Option.some.injEq] at h; subst h
   have := hx.inv_int; subst this
   have := hy.inv_int; subst this
   cases mx
   · exact good_v hM (v := .int k (if b < a then b else a)) rfl (.d (.int _ _))
   · exact good_v hM (v := .int k (if b > a then b else a)) rfl (.d (.int _ _))
 · cases h
theorem aEq_run {op : BinOp} {T : TypeId} {x y : PV} {v u : Value} {r : PV × List Prop} (xo yo : Operand) (hx : RelV hz φ v x) (hy : RelV hz φ u y) (h : aEq P op T x y = some r) :
    ∃ z,(do eqGuard op T xo yo v u; binOp op T v u : Sem Value).run P w = .ok z w ∧ RelV hz φ z r.1 := by
 have gp : ∀ (a b : Option Addr),(eqGuard op T xo yo (.pointer a) (.pointer b)).run P w = .ok () w := by
  intro a b; unfold eqGuard; split <;> rfl
 have gb : ∀ (a b : Bool),(eqGuard op T xo yo (.bool a) (.bool b)).run P w = .ok () w := by
  intro a b; unfold eqGuard; split <;> rfl
 unfold aEq at h
 split at h
 · rename_i e hu
   have eqn : ∀ a : Option Addr,(Op.equal T (.pointer a) (.pointer none)).run P w = .ok a.isNone w := by
    intro a
    have h : ∀ d : Nat,(Op.equalIn (d + 1) T (.pointer a) (.pointer none)).run P w = .ok a.isNone w := by
     intro d
     unfold Op.equalIn
     rw [Sem.run_bind,run_underlying hu]
     cases a <;> rfl
    exact h 9999
   split at h
   all_goals first
    | cases h
    | skip
   · cases hx with
     | ptr _ _ g c hp =>
     cases hy with
     | d hd =>
     cases hd
     refine ⟨.bool false,?_,.d (.bool _)⟩
     rw [Sem.run_bind,gp]; simp only [Result.andThen_ok,binOp]; rw [Sem.run_bind,eqn]; rfl
   · cases hx with
     | ptr _ _ g c hp =>
     cases hy with
     | d hd =>
     cases hd
     refine ⟨.bool true,?_,.d (.bool _)⟩
     rw [Sem.run_bind,gp]; simp only [Result.andThen_ok,binOp]; rw [Sem.run_bind,eqn]; rfl
   · cases hx with
     | d hd1 =>
     cases hd1
     cases hy with
     | d hd =>
     cases hd
     refine ⟨.bool true,?_,.d (.bool _)⟩
     rw [Sem.run_bind,gp]; simp only [Result.andThen_ok,binOp]; rw [Sem.run_bind,eqn]; rfl
   · cases hx with
     | d hd1 =>
     cases hd1
     cases hy with
     | d hd =>
     cases hd
     refine ⟨.bool false,?_,.d (.bool _)⟩
     rw [Sem.run_bind,gp]; simp only [Result.andThen_ok,binOp]; rw [Sem.run_bind,eqn]; rfl
 · rename_i hu
   have gf : ∀ f fa fb op,(eqGuard op T xo yo (.func f fa fb) .nilFunc).run P w = .ok () w := by intro f fa fb op; unfold eqGuard; split <;> rfl
   have he : ∀ f fa fb,(Op.equal T (.func f fa fb) .nilFunc).run P w = .ok false w := by
    intro f fa fb
    have h : ∀ d : Nat,(Op.equalIn (d + 1) T (.func f fa fb) .nilFunc).run P w = .ok false w := by
     intro d
     unfold Op.equalIn
     rw [Sem.run_bind,run_underlying hu]
     rfl
    exact h 9999
   split at h
   all_goals first
    | cases h
    | skip
   · cases hx with
     | fn _ fa fb _ _ _ _ _ _ =>
     cases hy with
     | d hd =>
     cases hd
     refine ⟨.bool false,?_,.d (.bool _)⟩
     rw [Sem.run_bind,gf]; simp only [Result.andThen_ok,binOp]; rw [Sem.run_bind,he]; rfl
   · cases hx with
     | fn _ fa fb _ _ _ _ _ _ =>
     cases hy with
     | d hd =>
     cases hd
     refine ⟨.bool true,?_,.d (.bool _)⟩
     rw [Sem.run_bind,gf]; simp only [Result.andThen_ok,binOp]; rw [Sem.run_bind,he]; rfl
 · rename_i hu
   have eqb : ∀ a b : Bool,(Op.equal T (.bool a) (.bool b)).run P w = .ok (a == b) w := by
    intro a b
    have h : ∀ d : Nat,(Op.equalIn (d + 1) T (.bool a) (.bool b)).run P w = .ok (a == b) w := by
     intro d
     unfold Op.equalIn
     rw [Sem.run_bind,run_underlying hu]
     rfl
    exact h 9999
   split at h
   all_goals first
    | cases h
    | skip
   · have := hx.inv_bool; subst this
     have := hy.inv_bool; subst this
     refine ⟨_,?_,.d (.bool _)⟩
     rw [Sem.run_bind,gb]; simp only [Result.andThen_ok,binOp]; rw [Sem.run_bind,eqb]; rfl
   · have := hx.inv_bool; subst this
     have := hy.inv_bool; subst this
     refine ⟨_,?_,.d (.bool _)⟩
     rw [Sem.run_bind,gb]; simp only [Result.andThen_ok,binOp]; rw [Sem.run_bind,eqb]; rfl
 · cases h
end
end Go.Ab
