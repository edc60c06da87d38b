/- A row that is cut without being put away: what is behind a place is looked at; what is ahead of one is kept, and has no room. -/
import Derived.Test.YtgldclhdieafkaaGreatAbMap
namespace Go.Ab
open Go.RowKit
def SU (P : Program) (T : TypeId) (x : PV) (lo hi mx : Option PV) (σ : List AObj) : Option Out :=
 match P.underlying T,x,mx with
 | some (.slice e),.row i n,none =>
   match P.info? e,DP lo 0,DP hi n with
   | some info,some l,some h => some ⟨.view i (l.toNat * info.size) (h - l).toNat,σ,none,[0 ≤ l ∧ l < h ∧ h ≤ n]⟩
   | _,_,_ => none
 | _,_,_ => none
def Rj (P : Program) (T : TypeId) (x : PV) (lo hi mx : Option PV) (σ : List AObj) : Option Out :=
 match P.underlying T,x,mx with
 | some (.slice e),.row _ n,none =>
   match P.info? e,DP lo 0,DP hi n with
   | some _,some l,some h => some ⟨.d (.list false 0 []),σ,none,[0 ≤ l ∧ l = h ∧ h ≤ n]⟩
   | _,_,_ => none
 | _,_,_ => none
def Rc (P : Program) (T : TypeId) (x : PV) (lo hi mx : Option PV) (σ : List AObj) : Option Out :=
 match P.underlying T,x,lo with
 | some (.slice e),.row i n,none =>
   match P.info? e,hi,DP hi n,mx,DP mx 0,σ[i]? with
   | some info,some _,some h,some _,some m,some (.row e2 sz cs) =>
     if Nat.beq sz info.size then some ⟨.row i h.toNat,(σ.map (AObj.sub i fun _ => .undef)).set i (.row e2 sz (cs.take (h.toNat * sz))),some (i,fun _ => .undef),[0 ≤ h ∧ h ≤ n ∧ m = h]⟩ else none
   | _,_,_,_,_,_ => none
 | _,_,_ => none
def OV (P : Program) (T : TypeId) (x : PV) (lo hi mx : Option PV) (σ : List AObj) (orc : Orc) : Option Out :=
 match orc with
 | .pcells _ => SU P T x lo hi mx σ
 | .nums _ => Rj P T x lo hi mx σ
 | .ents _ => Rc P T x lo hi mx σ
 | _ => Re P T x lo hi mx σ
section
variable {P : Program} {E : Entry} {w : World} {hz : Hp} {φ : Phi} {σ : List AObj}
theorem Jz {T e : TypeId} {info : TypeInfo} (hu : P.underlying T = some (.slice e)) (hi : P.info? e = some info) {a : Option Addr} {n cap : Nat} {lo hi' mx : Option Value} {plo phi pmx : Option PV}
    (rlo : Gx hz φ lo plo) (rhi : Gx hz φ hi' phi) (rmx : Gx hz φ mx pmx) {l h : Int} {mm : Nat} (el : DP plo 0 = some l) (eh : DP phi n = some h) (em : DP pmx cap = some (mm : Int)) (hb : pmx.isSome = true → phi.isSome = true)
    (b0 : 0 ≤ l) (b1 : l ≤ h) (hm1 : h ≤ mm) (hm2 : (mm : Int) ≤ cap) :
    (Instr.sliceAt T (.slice a n cap) lo hi' mx).run P w = .ok (.slice (if mm = l.toNat then a else a.map (·.add (l.toNat * info.size))) (h.toNat - l.toNat) (mm - l.toNat)) w := by
 have hsb := IP (P := P) (w := w) (hz := hz) (φ := φ) (isSlice := true) (len := n) (cap := cap) rlo.some_ rhi.some_ rmx.some_ rlo.none_ rhi.none_ rmx.none_ el eh em
  (by rw [rmx.isSome,rhi.isSome]; exact hb) b0 b1 hm1 hm2
 unfold Instr.sliceAt
 rw [Sem.run_bind,run_underlying hu]
 simp only [Result.andThen_ok]
 unfold Instr.slice
 rw [Sem.run_bind,run_underlying hu]
 simp only [Result.andThen_ok]
 rw [Sem.run_bind,hsb]
 simp only [Result.andThen_ok]
 rw [Sem.run_bind,show (sizeOf e).run P w = .ok info.size w by simp [sizeOf,typeInfo,hi]]
 simp
theorem row_val {v : Value} {i n : Nat} (h : RelV hz φ v (.row i n)) : (∃ g cap,v = .slice (some ⟨g,0,none⟩) n cap ∧ φ i = some (some (g,cap)) ∧ n ≤ cap ∧ cap ≤ maxLen) ∨ (∃ a,v = .slice a 0 0 ∧ n = 0 ∧ φ i = some none) := by
 cases h with
 | row _ _ g cap hp hn hm => exact .inl ⟨g,cap,rfl,hp,hn,hm⟩
 | rowNil _ a hp => exact .inr ⟨a,rfl,rfl,hp⟩
theorem Qc {T : TypeId} {x : PV} {v : Value} {lo hi mx : Option Value} {plo phi pmx : Option PV} {out : Out} (hM : Mem E hz φ σ w) (hx : RelV hz φ v x) (rlo : Gx hz φ lo plo) (rhi : Gx hz φ hi phi) (rmx : Gx hz φ mx pmx)
    (h : SU P T x plo phi pmx σ = some out) (ho : ∀ p ∈ out.obl,p) : Good P E (do pure (.value (← Instr.sliceAt T v lo hi mx))) w hz φ out := by
 unfold SU at h
 split at h
 · rename_i e i n hu
   split at h
   · rename_i info l h' hi' el eh
     simp only [Option.some.injEq] at h; subst h
     obtain ⟨b0,b1,b2⟩ := ho _ (List.mem_singleton.2 rfl)
     rcases row_val hx with ⟨g,cap,rfl,hp,hn,hm⟩ | ⟨a,rfl,rfl,hp⟩
     · have hr := Jz (P := P) (w := w) (a := some ⟨g,0,none⟩) (n := n) (cap := cap) (mm := cap) hu hi' rlo rhi rmx el eh rfl (by simp) b0 (by omega) (by omega) (by omega)
       rw [if_neg (by omega)] at hr
       refine good_v hM hr ?_
       simp only [Option.map_some,GW,Nat.zero_add]
       have : h'.toNat - l.toNat = (h' - l).toNat := by omega
       rw [this]
       exact .view i _ _ g cap _ hp (by omega) (by omega)
     · omega
   · cases h
 · cases h
theorem aEmpty_good {T : TypeId} {x : PV} {v : Value} {lo hi mx : Option Value} {plo phi pmx : Option PV} {out : Out} (hM : Mem E hz φ σ w) (hx : RelV hz φ v x) (rlo : Gx hz φ lo plo) (rhi : Gx hz φ hi phi) (rmx : Gx hz φ mx pmx)
    (h : Rj P T x plo phi pmx σ = some out) (ho : ∀ p ∈ out.obl,p) : Good P E (do pure (.value (← Instr.sliceAt T v lo hi mx))) w hz φ out := by
 unfold Rj at h
 split at h
 · rename_i e i n hu
   split at h
   · rename_i info l h' hi' el eh
     simp only [Option.some.injEq] at h; subst h
     obtain ⟨b0,b1,b2⟩ := ho _ (List.mem_singleton.2 rfl)
     have key : ∀ (a : Option Addr) (cap : Nat),n ≤ cap → cap ≤ maxLen → v = .slice a n cap → Good P E (do pure (.value (← Instr.sliceAt T v lo hi mx))) w hz φ ⟨.d (.list false 0 []),σ,none,[0 ≤ l ∧ l = h' ∧ h' ≤ n]⟩ := by
      intro a cap hn hm e
      subst e
      have hr := Jz (P := P) (w := w) (a := a) (n := n) (cap := cap) (mm := cap) hu hi' rlo rhi rmx el eh rfl (by simp) b0 (by omega) (by omega) (by omega)
      refine good_v hM hr ?_
      have : h'.toNat - l.toNat = 0 := by omega
      rw [this]
      exact .d (.list0 _ _ _ (fun h => by cases h) (by omega))
     rcases row_val hx with ⟨g,cap,e,hp,hn,hm⟩ | ⟨a,e,rfl,hp⟩
     · exact key _ _ hn hm e
     · exact key _ _ (Nat.le_refl _) (Nat.zero_le _) e
   · cases h
 · cases h
theorem Mem.trunc (hM : Mem E hz φ σ w) {i g c k : Nat} {e : TypeId} {sz : Nat} {cs : List D} (hi : σ[i]? = some (.row e sz cs)) (hp : φ i = some (some (g,c))) (hk : k ≤ c) :
    Mem E hz (φ.set i (some (some (g,k)))) ((σ.map (AObj.sub i fun _ => .undef)).set i (.row e sz (cs.take (k * sz)))) w := by
 have hlt := AL hi
 have ho : ∀ j x,j ≠ i → φ j = some x → (φ.set i (some (some (g,k)))) j = some x := fun j x hj h => by rw [Phi.set_other _ _ hj]; exact h
 have back : ∀ j g' c',(φ.set i (some (some (g,k)))) j = some (some (g',c')) → ∃ c2,φ j = some (some (g',c2)) := by
  intro j g' c' h
  by_cases hj : j = i
  · subst hj; rw [Phi.set_same] at h; cases h; exact ⟨c,hp⟩
  · rw [Phi.set_other _ _ hj] at h; exact ⟨c',h⟩
 have old : ∀ (j : Nat) (x : AObj),((σ.map (AObj.sub i fun _ => .undef)).set i (.row e sz (cs.take (k * sz))))[j]? = some x → ∃ y : AObj,σ[j]? = some y ∧ y.live = x.live := by
  intro j x hx
  rcases get_set_sub hx with ⟨rfl,rfl⟩ | ⟨hne,y,hy,rfl⟩
  · exact ⟨_,hi,rfl⟩
  · exact ⟨y,hy,(sub_live _ _ _).symm⟩
 have hcm : c ≤ maxLen := hM.caps i g c hp
 exact
 { knows := hM.knows
   objs := fun j x hx => by
    rcases get_set_sub hx with ⟨rfl,rfl⟩ | ⟨hne,y,hy,rfl⟩
    · rcases hM.objs j _ hi with ⟨q1,q2⟩ | ⟨g',cap,arr,fr,q1,q2,q3,q4,q5,q6,q7,q8⟩
      · rw [hp] at q1; cases q1
      · rw [hp] at q1; cases q1
        refine .inr ⟨g,k,arr,fr,Phi.set_same _ _ _,q2,q3,by omega,Nat.le_trans (Nat.mul_le_mul_right sz hk) q5,?_,fun m y hm => ?_,q8⟩
        · rw [List.length_take]; omega
        · rw [List.getElem?_take] at hm
          split at hm
          · exact q7 m y hm
          · cases hm
    · exact (hM.objs j y hy).put hne (Hp.le_refl _) ho (fun _ _ _ => .undef _) (fun _ _ _ _ _ hn => ⟨rfl,hn⟩)
   inj := fun a b oa ob g' c1 c2 ha hb la lb pa pb => by
    obtain ⟨d1,pa⟩ := back _ _ _ pa
    obtain ⟨d2,pb⟩ := back _ _ _ pb
    obtain ⟨ya,ha',hla⟩ := old _ _ ha
    obtain ⟨yb,hb',hlb⟩ := old _ _ hb
    exact hM.inj a b ya yb g' d1 d2 ha' hb' (hla.trans la) (hlb.trans lb) pa pb
   new := fun a x g' c1 ha la pa => by
    obtain ⟨d1,pa⟩ := back _ _ _ pa
    obtain ⟨ya,ha',hla⟩ := old _ _ ha
    exact hM.new a ya g' d1 ha' (hla.trans la) pa
   dom := fun j hj => by
    have hj' : σ.length ≤ j := by simpa using hj
    rw [Phi.set_other _ _ (by omega)]; exact hM.dom j hj'
   caps := fun j g' c' h => by
    by_cases hj : j = i
    · subst hj; rw [Phi.set_same] at h; cases h; omega
    · rw [Phi.set_other _ _ hj] at h; exact hM.caps j g' c' h
   os := hM.os,tape := hM.tape,output := hM.output,size := hM.size,kept := hM.kept,hle := hM.hle,hnew := hM.hnew }
theorem OS {T : TypeId} {x : PV} {v : Value} {lo hi mx : Option Value} {plo phi pmx : Option PV} {out : Out} (hM : Mem E hz φ σ w) (hx : RelV hz φ v x) (rlo : Gx hz φ lo plo) (rhi : Gx hz φ hi phi) (rmx : Gx hz φ mx pmx)
    (h : Rc P T x plo phi pmx σ = some out) (ho : ∀ p ∈ out.obl,p) : Good P E (do pure (.value (← Instr.sliceAt T v lo hi mx))) w hz φ out := by
 unfold Rc at h
 split at h
 · rename_i e i n hu
   split at h
   · rename_i info ph h' pm m e2 sz cs hi' hobj eh em
     split at h
     · rename_i hsz
       have hsz := Nat.eq_of_beq_eq_true hsz
       simp only [Option.some.injEq] at h; subst h
       obtain ⟨b0,b1,b2⟩ := ho _ (List.mem_singleton.2 rfl)
       subst b2
       have em' : ∀ cap : Nat,DP (some pm) (cap : Int) = some ((m.toNat : Nat) : Int) := fun cap => by
        have : ((m.toNat : Nat) : Int) = m := by omega
        rw [this]
        cases pm with
        | d z => cases z with
          | int k n' => simpa [DP] using em
          | _ => simp [DP] at em
        | _ => simp [DP] at em
       rcases row_val hx with ⟨g,cap,rfl,hp,hn,hm⟩ | ⟨a,rfl,rfl,hp⟩
       · have hr := Jz (P := P) (w := w) (a := some ⟨g,0,none⟩) (n := n) (cap := cap) (mm := m.toNat) (l := 0) hu hi' rlo rhi rmx rfl eh (em' cap) (by simp) (Int.le_refl _) b0 (by omega) (by omega)
         have ha : (if m.toNat = (0 : Int).toNat then some (⟨g,0,none⟩ : Addr) else (some (⟨g,0,none⟩ : Addr)).map (·.add ((0 : Int).toNat * info.size))) = some ⟨g,0,none⟩ := by
          split
          · rfl
          · simp only [Option.map_some,GW]; simp
         rw [ha] at hr
         refine ⟨_,_,w,hz,φ.set i (some (some (g,m.toNat))),by rw [Sem.run_bind,hr]; rfl,.inl rfl,hM.trunc hobj hp (by omega),?_,?_⟩
         · simp only [Int.toNat_zero,Nat.sub_zero]
           exact .row i _ g _ (Phi.set_same _ _ _) (Nat.le_refl _) (by omega)
         · intro u y hy
           exact hy.sub (Hp.le_refl _) (fun j x hj h => by rw [Phi.set_other _ _ hj]; exact h) (fun _ _ _ => .undef _)
       · have hm0 : m = 0 := by omega
         subst hm0
         have hr := Jz (P := P) (w := w) (a := a) (n := 0) (cap := 0) (mm := 0) (l := 0) hu hi' rlo rhi rmx rfl eh (em' 0) (by simp) (Int.le_refl _) (by omega) (by omega) (by omega)
         simp only [Int.toNat_zero,if_true,Nat.sub_zero] at hr
         have hset : φ.set i (some none) = φ := by
          funext j
          unfold Phi.set
          split
          · rename_i e; subst e; exact hp.symm
          · rfl
         have hcs : cs = [] := by
          rcases hM.objs i _ hobj with ⟨_,q2⟩ | ⟨g',cap,arr,fr,q1,_⟩
          · exact q2
          · rw [hp] at q1; cases q1
         subst hcs
         refine ⟨_,_,w,hz,φ,by rw [Sem.run_bind,hr]; rfl,.inl rfl,?_,.rowNil i a hp,?_⟩
         · have := hM.objs i _ hobj
           simp only [Int.toNat_zero,Nat.zero_mul,List.take_zero]
           exact
           { knows := hM.knows
             objs := fun j x hx => by
              rcases get_set_sub hx with ⟨rfl,rfl⟩ | ⟨hne,y,hy,rfl⟩
              · exact .inl ⟨hp,rfl⟩
              · exact (hM.objs j y hy).put hne (Hp.le_refl _) (fun _ _ _ h => h) (fun _ _ _ => .undef _) (fun _ _ _ _ _ hn => ⟨rfl,hn⟩)
             inj := fun p q op oq g' c1 c2 ha hb la lb pa pb => by
              rcases get_set_sub ha with ⟨ea,rfl⟩ | ⟨na,ya,hya,rfl⟩
              · subst ea; rw [hp] at pa; cases pa
              rcases get_set_sub hb with ⟨eb,rfl⟩ | ⟨nb,yb,hyb,rfl⟩
              · subst eb; rw [hp] at pb; cases pb
              exact hM.inj p q ya yb g' c1 c2 hya hyb (by rw [← sub_live]; exact la) (by rw [← sub_live]; exact lb) pa pb
             new := fun p x g' c1 ha la pa => by
              rcases get_set_sub ha with ⟨ea,rfl⟩ | ⟨na,ya,hya,rfl⟩
              · subst ea; rw [hp] at pa; cases pa
              exact hM.new p ya g' c1 hya (by rw [← sub_live]; exact la) pa
             dom := fun j hj => hM.dom j (by simpa using hj)
             caps := hM.caps
             os := hM.os,tape := hM.tape,output := hM.output,size := hM.size,kept := hM.kept,hle := hM.hle,hnew := hM.hnew }
         · intro u y hy
           exact hy.sub (Hp.le_refl _) (fun _ _ _ h => h) (fun _ _ _ => .undef _)
     · cases h
   · cases h
 · cases h
theorem Oi {T : TypeId} {x : PV} {v : Value} {lo hi mx : Option Value} {plo phi pmx : Option PV} {orc : Orc} {out : Out} (hM : Mem E hz φ σ w) (hx : RelV hz φ v x) (rlo : Gx hz φ lo plo) (rhi : Gx hz φ hi phi) (rmx : Gx hz φ mx pmx)
    (h : OV P T x plo phi pmx σ orc = some out) (ho : ∀ p ∈ out.obl,p) : Good P E (do pure (.value (← Instr.sliceAt T v lo hi mx))) w hz φ out := by
 unfold OV at h
 split at h
 · exact Qc hM hx rlo rhi rmx h ho
 · exact aEmpty_good hM hx rlo rhi rmx h ho
 · exact OS hM hx rlo rhi rmx h ho
 · exact OU hM hx rlo rhi rmx h ho
end
end Go.Ab
