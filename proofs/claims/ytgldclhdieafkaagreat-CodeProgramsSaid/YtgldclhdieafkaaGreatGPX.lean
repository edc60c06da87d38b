/- GPX -/
import Derived.Test.YtgldclhdieafkaaGreatGP
import Derived.Test.YtgldclhdieafkaaGreatAbEval
namespace Go.Ab
open Go.Proofs
set_option linter.unusedVariables false
set_option maxRecDepth 100000
noncomputable def JI  : Option ((List ByteArray)) :=
 some ([(⟨#[97,102,116,101,114]⟩ : ByteArray),(⟨#[97,115,115,101,114,116]⟩ : ByteArray),(⟨#[99,97,115,101]⟩ : ByteArray),(⟨#[99,104,97,110]⟩ : ByteArray),(⟨#[101,108,115,101]⟩ : ByteArray),(⟨#[105,102]⟩ : ByteArray),(⟨#[109,97,105,110]⟩ : ByteArray),(⟨#[112,114,105,110,116]⟩ : ByteArray),(⟨#[112,114,111,99]⟩ : ByteArray),(⟨#[114,97,110,100,111,109]⟩ : ByteArray),(⟨#[115,101,108,101,99,116]⟩ : ByteArray),(⟨#[115,107,105,112]⟩ : ByteArray),(⟨#[115,108,101,101,112]⟩ : ByteArray),(⟨#[115,116,97,114,116]⟩ : ByteArray),(⟨#[115,116,111,112]⟩ : ByteArray),(⟨#[118,97,114]⟩ : ByteArray),(⟨#[119,104,101,110]⟩ : ByteArray),(⟨#[119,104,105,108,101]⟩ : ByteArray)])
noncomputable def G7 (p0 : ByteArray) : Option (Bool) :=
 some (!(p0.toList == p0.toList))
noncomputable def Fc (x5 : Bool) : Option (Bool) :=
 some x5
noncomputable def Ih (p0 : ByteArray) (p1 : ByteArray) : Option (Bool) :=
 (G7 p0).bind fun y6 => cond y6 ((G7 p1).bind fun y8 => cond (!y8) (Fc true) (Fc (sLt p0 p1))) (Fc (sLt p0 p1))
noncomputable def F4 (p0 : ByteArray) : Option (Bool) :=
 some (!(p0.toList == p0.toList))
noncomputable def Ba (x14 : Int) (x34 : Bool) : Option (Int × Bool) :=
 some (x14,x34)
noncomputable def C7 (p1 : ByteArray) (o0 : (List ByteArray)) (x14 : Int) (x15 : Int) : Option ((Int × Int) ⊕ (Int × Bool)) :=
 cond (decide (x14 < x15)) ((lAt o0 (w64 (Int.fdiv (wu64 (w64 (x14 + x15))) 2))).bind fun y22 => (Ih y22 p1).bind fun y23 => cond y23 (some (.inl ((w64 ((w64 (Int.fdiv (wu64 (w64 (x14 + x15))) 2)) + 1)),x15))) (some (.inl (x14,(w64 (Int.fdiv (wu64 (w64 (x14 + x15))) 2)))))) ((cond (decide (x14 < ((o0).length : Int))) ((lAt o0 x14).bind fun y36 => cond (y36.toList == p1.toList) (Ba x14 true) ((lAt o0 x14).bind fun y38 => (F4 y38).bind fun y39 => cond y39 ((F4 p1).bind fun y41 => Ba x14 y41) (Ba x14 false))) (Ba x14 false)).map Sum.inr)
noncomputable def DL (p1 : ByteArray) (o0 : (List ByteArray)) : Option (Int × Bool) :=
 TD (fun s : (Int × Int) => C7 p1 o0 s.1 s.2) (0,((o0).length : Int))
noncomputable def Kd (p0 : ByteArray) : Option (Bool) :=
 (JI).bind fun y3 => (DL p0 y3).bind fun y4 => some y4.2
theorem ML  : Le (JI ) (Hs ) := by
 unfold JI Hs
 repeat' with_reducible first
  | exact Le.non _
  | exact Le.rf _
  | refine Le.grd ?_
  | refine Le.bind ?_ (fun _ => ?_)
  | refine Le.cond ?_ ?_
  | refine Le.map ?_
  | refine Le.elim (fun _ => ?_) (fun _ => ?_)
  | refine Le.lt (fun _ => ?_)
  | refine Le.loop (fun _ => ?_)
  | refine Le.loopF (fun _ => ?_)
theorem KX (p0 : ByteArray) : Le (G7 p0) (E5 p0) := by
 unfold G7 E5
 repeat' with_reducible first
  | exact Le.non _
  | exact Le.rf _
  | refine Le.grd ?_
  | refine Le.bind ?_ (fun _ => ?_)
  | refine Le.cond ?_ ?_
  | refine Le.map ?_
  | refine Le.elim (fun _ => ?_) (fun _ => ?_)
  | refine Le.lt (fun _ => ?_)
  | refine Le.loop (fun _ => ?_)
  | refine Le.loopF (fun _ => ?_)
theorem Kf (x5 : Bool) : Le (Fc x5) (Dr x5) := by
 unfold Fc Dr
 repeat' with_reducible first
  | exact Le.non _
  | exact Le.rf _
  | refine Le.grd ?_
  | refine Le.bind ?_ (fun _ => ?_)
  | refine Le.cond ?_ ?_
  | refine Le.map ?_
  | refine Le.elim (fun _ => ?_) (fun _ => ?_)
  | refine Le.lt (fun _ => ?_)
  | refine Le.loop (fun _ => ?_)
  | refine Le.loopF (fun _ => ?_)
theorem Lo (p0 : ByteArray) (p1 : ByteArray) : Le (Ih p0 p1) (Fz p0 p1) := by
 unfold Ih Fz
 repeat' with_reducible first
  | apply KX
  | apply Kf
  | exact Le.non _
  | exact Le.rf _
  | refine Le.grd ?_
  | refine Le.bind ?_ (fun _ => ?_)
  | refine Le.cond ?_ ?_
  | refine Le.map ?_
  | refine Le.elim (fun _ => ?_) (fun _ => ?_)
  | refine Le.lt (fun _ => ?_)
  | refine Le.loop (fun _ => ?_)
  | refine Le.loopF (fun _ => ?_)
theorem JU (p0 : ByteArray) : Le (F4 p0) (DQ p0) := by
 unfold F4 DQ
 repeat' with_reducible first
  | exact Le.non _
  | exact Le.rf _
  | refine Le.grd ?_
  | refine Le.bind ?_ (fun _ => ?_)
  | refine Le.cond ?_ ?_
  | refine Le.map ?_
  | refine Le.elim (fun _ => ?_) (fun _ => ?_)
  | refine Le.lt (fun _ => ?_)
  | refine Le.loop (fun _ => ?_)
  | refine Le.loopF (fun _ => ?_)
theorem Hg (x14 : Int) (x34 : Bool) : Le (Ba x14 x34) (AQ x14 x34) := by
 unfold Ba AQ
 repeat' with_reducible first
  | exact Le.non _
  | exact Le.rf _
  | refine Le.grd ?_
  | refine Le.bind ?_ (fun _ => ?_)
  | refine Le.cond ?_ ?_
  | refine Le.map ?_
  | refine Le.elim (fun _ => ?_) (fun _ => ?_)
  | refine Le.lt (fun _ => ?_)
  | refine Le.loop (fun _ => ?_)
  | refine Le.loopF (fun _ => ?_)
theorem Hf (p1 : ByteArray) (o0 : (List ByteArray)) (x14 : Int) (x15 : Int) : Le (C7 p1 o0 x14 x15) (Bb p1 o0 x14 x15) := by
 unfold C7 Bb
 repeat' with_reducible first
  | apply Lo
  | apply Hg
  | apply JU
  | exact Le.non _
  | exact Le.rf _
  | refine Le.grd ?_
  | refine Le.bind ?_ (fun _ => ?_)
  | refine Le.cond ?_ ?_
  | refine Le.map ?_
  | refine Le.elim (fun _ => ?_) (fun _ => ?_)
  | refine Le.lt (fun _ => ?_)
  | refine Le.loop (fun _ => ?_)
  | refine Le.loopF (fun _ => ?_)
theorem HH (p1 : ByteArray) (o0 : (List ByteArray)) : Le (DL p1 o0) (Bp p1 o0) := by
 unfold DL Bp
 repeat' with_reducible first
  | apply Hf
  | exact Le.non _
  | exact Le.rf _
  | refine Le.grd ?_
  | refine Le.bind ?_ (fun _ => ?_)
  | refine Le.cond ?_ ?_
  | refine Le.map ?_
  | refine Le.elim (fun _ => ?_) (fun _ => ?_)
  | refine Le.lt (fun _ => ?_)
  | refine Le.loop (fun _ => ?_)
  | refine Le.loopF (fun _ => ?_)
theorem NE (p0 : ByteArray) : Le (Kd p0) (Hh p0) := by
 unfold Kd Hh
 repeat' with_reducible first
  | apply ML
  | apply HH
  | exact Le.non _
  | exact Le.rf _
  | refine Le.grd ?_
  | refine Le.bind ?_ (fun _ => ?_)
  | refine Le.cond ?_ ?_
  | refine Le.map ?_
  | refine Le.elim (fun _ => ?_) (fun _ => ?_)
  | refine Le.lt (fun _ => ?_)
  | refine Le.loop (fun _ => ?_)
  | refine Le.loopF (fun _ => ?_)
end Go.Ab
