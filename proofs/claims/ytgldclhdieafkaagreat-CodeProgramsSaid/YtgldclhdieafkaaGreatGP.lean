/- GP -/
import Derived.Test.YtgldclhdieafkaaGreatAbCut
import Derived.Test.YtgldclhdieafkaaGreatProg
namespace Go.Ab
open Go.Proofs
set_option linter.unusedVariables false
set_option maxRecDepth 100000
structure Ac where
 Op : Int
 A : Int
 B : Int
abbrev Ac.enc (x : Ac) : List D := [.int .i64 x.Op,.int .i64 x.A,.int .i64 x.B]
theorem Ac.enc_len (x : Ac) : (Ac.enc x).length = 3 := rfl
abbrev Ac.pvs (x : Ac) : List PV := [i64 x.Op,i64 x.A,i64 x.B]
structure Ao where
 Name : ByteArray
 Entry : Int
 Params : Int
 Vars : Int
abbrev Ao.enc (x : Ao) : List D := [.str x.Name,.int .i64 x.Entry,.int .i64 x.Params,.int .i64 x.Vars]
theorem Ao.enc_len (x : Ao) : (Ao.enc x).length = 4 := rfl
abbrev Ao.pvs (x : Ao) : List PV := [sv x.Name,i64 x.Entry,i64 x.Params,i64 x.Vars]
structure Ak where
 Name : ByteArray
 Base : Int
 Size : Int
abbrev Ak.enc (x : Ak) : List D := [.str x.Name,.int .i64 x.Base,.int .i64 x.Size]
theorem Ak.enc_len (x : Ak) : (Ak.enc x).length = 3 := rfl
abbrev Ak.pvs (x : Ak) : List PV := [sv x.Name,i64 x.Base,i64 x.Size]
structure Au where
 Ins : (List Ac)
 Defs : (List Ao)
 Chans : (List Ak)
 Main : Int
 Stmts : Int
abbrev Au.enc (x : Au) : List D := [.list false (x.Ins).length (encL Ac.enc x.Ins),.list false (x.Defs).length (encL Ao.enc x.Defs),.list false (x.Chans).length (encL Ak.enc x.Chans),.int .i64 x.Main,.int .i64 x.Stmts]
theorem Au.enc_len (x : Au) : (Au.enc x).length = 5 := rfl
abbrev Au.pvs (x : Au) : List PV := [lv Ac.enc x.Ins,lv Ao.enc x.Defs,lv Ak.enc x.Chans,i64 x.Main,i64 x.Stmts]
structure As where
 Code : Au
 marks : Int
 from_ : Int
 to : Int
 vars : Int
abbrev As.enc (x : As) : List D := [.list false (x.Code.Ins).length (encL Ac.enc x.Code.Ins),.list false (x.Code.Defs).length (encL Ao.enc x.Code.Defs),.list false (x.Code.Chans).length (encL Ak.enc x.Code.Chans),.int .i64 x.Code.Main,.int .i64 x.Code.Stmts,.int .i64 x.marks,.int .i64 x.from_,.int .i64 x.to,.int .i64 x.vars]
theorem As.enc_len (x : As) : (As.enc x).length = 9 := rfl
abbrev As.pvs (x : As) : List PV := [lv Ac.enc x.Code.Ins,lv Ao.enc x.Code.Defs,lv Ak.enc x.Code.Chans,i64 x.Code.Main,i64 x.Code.Stmts,i64 x.marks,i64 x.from_,i64 x.to,i64 x.vars]
structure Al where
 word : ByteArray
 nums : Int
 takes : Int
 gives : Int
abbrev Al.enc (x : Al) : List D := [.str x.word,.int .i64 x.nums,.int .i64 x.takes,.int .i64 x.gives]
theorem Al.enc_len (x : Al) : (Al.enc x).length = 4 := rfl
abbrev Al.pvs (x : Al) : List PV := [sv x.word,i64 x.nums,i64 x.takes,i64 x.gives]
structure Aj where
 n : Int
 choose : Bool
abbrev Aj.enc (x : Aj) : List D := [.int .i64 x.n,.bool x.choose]
theorem Aj.enc_len (x : Aj) : (Aj.enc x).length = 2 := rfl
abbrev Aj.pvs (x : Aj) : List PV := [i64 x.n,bo x.choose]
structure AA where
 C : Au
 At : Int
 E : Int
abbrev AA.enc (x : AA) : List D := [.list false (x.C.Ins).length (encL Ac.enc x.C.Ins),.list false (x.C.Defs).length (encL Ao.enc x.C.Defs),.list false (x.C.Chans).length (encL Ak.enc x.C.Chans),.int .i64 x.C.Main,.int .i64 x.C.Stmts,.int .i64 x.At,.int .i64 x.E]
theorem AA.enc_len (x : AA) : (AA.enc x).length = 7 := rfl
abbrev AA.pvs (x : AA) : List PV := [lv Ac.enc x.C.Ins,lv Ao.enc x.C.Defs,lv Ak.enc x.C.Chans,i64 x.C.Main,i64 x.C.Stmts,i64 x.At,i64 x.E]
structure Aa where
 Op : Int
 Name : ByteArray
 N : Int
 Kids : Int
 At : Int
abbrev Aa.enc (x : Aa) : List D := [.int .i64 x.Op,.str x.Name,.int .i64 x.N,.int .i64 x.Kids,.int .i64 x.At]
theorem Aa.enc_len (x : Aa) : (Aa.enc x).length = 5 := rfl
abbrev Aa.pvs (x : Aa) : List PV := [i64 x.Op,sv x.Name,i64 x.N,i64 x.Kids,i64 x.At]
structure Aq where
 Name : ByteArray
 Node : Int
 Params : Int
 Vars : (List ByteArray)
abbrev Aq.enc (x : Aq) : List D := [.str x.Name,.int .i64 x.Node,.int .i64 x.Params,.list false (x.Vars).length (encL eStr x.Vars)]
theorem Aq.enc_len (x : Aq) : (Aq.enc x).length = 4 := rfl
abbrev Aq.pvs (x : Aq) : List PV := [sv x.Name,i64 x.Node,i64 x.Params,lv eStr x.Vars]
structure Ah where
 Chans : (List Ak)
 Routines : (List Aq)
 Main : Int
 Nums : (List Int)
abbrev Ah.enc (x : Ah) : List D := [.list false (x.Chans).length (encL Ak.enc x.Chans),.list false (x.Routines).length (encL Aq.enc x.Routines),.int .i64 x.Main,.list false (x.Nums).length (encL (eInt .i64) x.Nums)]
theorem Ah.enc_len (x : Ah) : (Ah.enc x).length = 4 := rfl
abbrev Ah.pvs (x : Ah) : List PV := [lv Ak.enc x.Chans,lv Aq.enc x.Routines,i64 x.Main,lv (eInt .i64) x.Nums]
structure Bc where
 L : (List Aa)
 P : Ah
 At : Int
 E : Int
abbrev Bc.enc (x : Bc) : List D := [.list false (x.L).length (encL Aa.enc x.L),.list false (x.P.Chans).length (encL Ak.enc x.P.Chans),.list false (x.P.Routines).length (encL Aq.enc x.P.Routines),.int .i64 x.P.Main,.list false (x.P.Nums).length (encL (eInt .i64) x.P.Nums),.int .i64 x.At,.int .i64 x.E]
theorem Bc.enc_len (x : Bc) : (Bc.enc x).length = 7 := rfl
abbrev Bc.pvs (x : Bc) : List PV := [lv Aa.enc x.L,lv Ak.enc x.P.Chans,lv Aq.enc x.P.Routines,i64 x.P.Main,lv (eInt .i64) x.P.Nums,i64 x.At,i64 x.E]
structure Ag where
 L : (List Aa)
 At : Int
 E : Int
abbrev Ag.enc (x : Ag) : List D := [.list false (x.L).length (encL Aa.enc x.L),.int .i64 x.At,.int .i64 x.E]
theorem Ag.enc_len (x : Ag) : (Ag.enc x).length = 3 := rfl
abbrev Ag.pvs (x : Ag) : List PV := [lv Aa.enc x.L,i64 x.At,i64 x.E]
structure Af where
 Kind : Int
 Text : ByteArray
 N : Int
 At : Int
abbrev Af.enc (x : Af) : List D := [.int .i64 x.Kind,.str x.Text,.int .i64 x.N,.int .i64 x.At]
theorem Af.enc_len (x : Af) : (Af.enc x).length = 4 := rfl
abbrev Af.pvs (x : Af) : List PV := [i64 x.Kind,sv x.Text,i64 x.N,i64 x.At]
structure A6 where
 L : (List Af)
 At : Int
 E : Int
abbrev A6.enc (x : A6) : List D := [.list false (x.L).length (encL Af.enc x.L),.int .i64 x.At,.int .i64 x.E]
theorem A6.enc_len (x : A6) : (A6.enc x).length = 3 := rfl
abbrev A6.pvs (x : A6) : List PV := [lv Af.enc x.L,i64 x.At,i64 x.E]
structure Aw where
 T : Af
 Next : Int
 E : Int
abbrev Aw.enc (x : Aw) : List D := [.int .i64 x.T.Kind,.str x.T.Text,.int .i64 x.T.N,.int .i64 x.T.At,.int .i64 x.Next,.int .i64 x.E]
theorem Aw.enc_len (x : Aw) : (Aw.enc x).length = 6 := rfl
abbrev Aw.pvs (x : Aw) : List PV := [i64 x.T.Kind,sv x.T.Text,i64 x.T.N,i64 x.T.At,i64 x.Next,i64 x.E]
structure Ad where
 l : (List Aa)
 n : Int
 at_ : Int
 e : Int
abbrev Ad.enc (x : Ad) : List D := [.list false (x.l).length (encL Aa.enc x.l),.int .i64 x.n,.int .i64 x.at_,.int .i64 x.e]
theorem Ad.enc_len (x : Ad) : (Ad.enc x).length = 4 := rfl
abbrev Ad.pvs (x : Ad) : List PV := [lv Aa.enc x.l,i64 x.n,i64 x.at_,i64 x.e]
structure Ap where
 P : Ah
 At : Int
 E : Int
abbrev Ap.enc (x : Ap) : List D := [.list false (x.P.Chans).length (encL Ak.enc x.P.Chans),.list false (x.P.Routines).length (encL Aq.enc x.P.Routines),.int .i64 x.P.Main,.list false (x.P.Nums).length (encL (eInt .i64) x.P.Nums),.int .i64 x.At,.int .i64 x.E]
theorem Ap.enc_len (x : Ap) : (Ap.enc x).length = 6 := rfl
abbrev Ap.pvs (x : Ap) : List PV := [lv Ak.enc x.P.Chans,lv Aq.enc x.P.Routines,i64 x.P.Main,lv (eInt .i64) x.P.Nums,i64 x.At,i64 x.E]
structure Ae where
 At : Int
 Ok : Bool
abbrev Ae.enc (x : Ae) : List D := [.int .i64 x.At,.bool x.Ok]
theorem Ae.enc_len (x : Ae) : (Ae.enc x).length = 2 := rfl
abbrev Ae.pvs (x : Ae) : List PV := [i64 x.At,bo x.Ok]
noncomputable def AV : Code := cAt [1,1,0,1,0,0] (bOf Tryz.f7)
noncomputable def AU : Code := cAt [1,1,0,1,0,1] (bOf Tryz.f7)
noncomputable def Hu (x3 : Bool) : Option (Bool) :=
 some x3
noncomputable def HI (p0 : Int) : Option (Bool) :=
 cond (p0 == 95) (Hu true) (cond (decide (97 ≤ (bits .or .u8 p0 32))) (Hu (decide ((bits .or .u8 p0 32) ≤ 122))) (Hu false))
noncomputable def ID (x2 : Bool) : Option (Bool) :=
 some x2
noncomputable def JJ (p0 : Int) : Option (Bool) :=
 cond (decide (48 ≤ p0)) (ID (decide (p0 ≤ 57))) (ID false)
noncomputable def Ht (x4 : Bool) : Option (Bool) :=
 some x4
noncomputable def Ip (p0 : Int) : Option (Bool) :=
 (HI p0).bind fun y5 => cond y5 (Ht true) ((JJ p0).bind fun y7 => Ht y7)
noncomputable def Iq (p0 : ByteArray) (x24 : Int) : Option ((Int) ⊕ (ByteArray)) :=
 cond (decide (x24 < (p0.size : Int))) ((sAt p0 x24).bind fun y38 => (Ip y38).bind fun y39 => cond (!y39) (grd ((0 : Int) ≤ 0 ∧ (0 : Int) ≤ x24 ∧ x24 ≤ (p0.size : Int)) <| (some (p0.extract (Int.toNat 0) (Int.toNat x24))).map Sum.inr) (some (.inl (w64 (x24 + 1))))) ((some p0).map Sum.inr)
noncomputable def I1 (p0 : ByteArray) : Option (ByteArray) :=
 Loop (fun s : (Int) => Iq p0 s) 0
noncomputable def Hs  : Option ((List ByteArray)) :=
 some ([(⟨#[97,102,116,101,114]⟩ : ByteArray),(⟨#[97,115,115,101,114,116]⟩ : ByteArray),(⟨#[99,97,115,101]⟩ : ByteArray),(⟨#[99,104,97,110]⟩ : ByteArray),(⟨#[101,108,115,101]⟩ : ByteArray),(⟨#[105,102]⟩ : ByteArray),(⟨#[109,97,105,110]⟩ : ByteArray),(⟨#[112,114,105,110,116]⟩ : ByteArray),(⟨#[112,114,111,99]⟩ : ByteArray),(⟨#[114,97,110,100,111,109]⟩ : ByteArray),(⟨#[115,101,108,101,99,116]⟩ : ByteArray),(⟨#[115,107,105,112]⟩ : ByteArray),(⟨#[115,108,101,101,112]⟩ : ByteArray),(⟨#[115,116,97,114,116]⟩ : ByteArray),(⟨#[115,116,111,112]⟩ : ByteArray),(⟨#[118,97,114]⟩ : ByteArray),(⟨#[119,104,101,110]⟩ : ByteArray),(⟨#[119,104,105,108,101]⟩ : ByteArray)])
noncomputable def E5 (p0 : ByteArray) : Option (Bool) :=
 some (!(p0.toList == p0.toList))
noncomputable def Dr (x5 : Bool) : Option (Bool) :=
 some x5
noncomputable def Fz (p0 : ByteArray) (p1 : ByteArray) : Option (Bool) :=
 (E5 p0).bind fun y6 => cond y6 ((E5 p1).bind fun y8 => cond (!y8) (Dr true) (Dr (sLt p0 p1))) (Dr (sLt p0 p1))
noncomputable def DQ (p0 : ByteArray) : Option (Bool) :=
 some (!(p0.toList == p0.toList))
noncomputable def AQ (x14 : Int) (x34 : Bool) : Option (Int × Bool) :=
 some (x14,x34)
noncomputable def Bb (p1 : ByteArray) (o0 : (List ByteArray)) (x14 : Int) (x15 : Int) : Option ((Int × Int) ⊕ (Int × Bool)) :=
 cond (decide (x14 < x15)) ((lAt o0 (w64 (Int.fdiv (wu64 (w64 (x14 + x15))) 2))).bind fun y22 => (Fz y22 p1).bind fun y23 => cond y23 (some (.inl ((w64 ((w64 (Int.fdiv (wu64 (w64 (x14 + x15))) 2)) + 1)),x15))) (some (.inl (x14,(w64 (Int.fdiv (wu64 (w64 (x14 + x15))) 2)))))) ((cond (decide (x14 < ((o0).length : Int))) ((lAt o0 x14).bind fun y36 => cond (y36.toList == p1.toList) (AQ x14 true) ((lAt o0 x14).bind fun y38 => (DQ y38).bind fun y39 => cond y39 ((DQ p1).bind fun y41 => AQ x14 y41) (AQ x14 false))) (AQ x14 false)).map Sum.inr)
noncomputable def Bp (p1 : ByteArray) (o0 : (List ByteArray)) : Option (Int × Bool) :=
 Loop (fun s : (Int × Int) => Bb p1 o0 s.1 s.2) (0,((o0).length : Int))
noncomputable def Hh (p0 : ByteArray) : Option (Bool) :=
 (Hs).bind fun y3 => (Bp p0 y3).bind fun y4 => some y4.2
noncomputable def FD (x9 : Bool) : Option (Bool) :=
 some x9
noncomputable def Fx (p0 : ByteArray) : Option (Bool) :=
 cond (!(p0.toList == (⟨#[]⟩ : ByteArray).toList)) (cond (decide ((p0.size : Int) ≤ 16)) ((sAt p0 0).bind fun y12 => (HI y12).bind fun y13 => cond y13 ((I1 p0).bind fun y15 => cond (y15.toList == p0.toList) ((Hh p0).bind fun y17 => FD (!y17)) (FD false)) (FD false)) (FD false)) (FD false)
noncomputable def BL (x144 : Int) (y205 : Ao) (x244 : Bool) : Option ((Int × Int) ⊕ (Bool)) :=
 cond x244 ((some false).map Sum.inr) (some (.inl (y205.Entry,(w64 (x144 + 1)))))
noncomputable def GX (p0 : Au) (x143 : Int) (x144 : Int) (y205 : Ao) (x208 : Bool) : Option ((Int × Int) ⊕ (Bool)) :=
 cond (!x208) (BL x144 y205 true) (cond (decide (x143 < 0)) (cond (y205.Entry != 0) (BL x144 y205 true) (cond (decide (y205.Entry ≤ x143)) (BL x144 y205 true) (cond (decide (((p0.Ins).length : Int) ≤ y205.Entry)) (BL x144 y205 true) (cond (decide (y205.Params < 0)) (BL x144 y205 true) (cond (decide (y205.Vars < y205.Params)) (BL x144 y205 true) (BL x144 y205 (decide (16 < y205.Vars)))))))) (cond (decide (y205.Entry ≤ x143)) (BL x144 y205 true) (cond (decide (((p0.Ins).length : Int) ≤ y205.Entry)) (BL x144 y205 true) (cond (decide (y205.Params < 0)) (BL x144 y205 true) (cond (decide (y205.Vars < y205.Params)) (BL x144 y205 true) (BL x144 y205 (decide (16 < y205.Vars))))))))
noncomputable def F2 (x321 : Int) (x322 : Int) (y351 : Ak) (x366 : Bool) : Option ((Int × Int) ⊕ (Bool)) :=
 cond x366 ((some false).map Sum.inr) (cond (decide (64 < (w64 (x321 + (if 1 > y351.Size then 1 else y351.Size))))) ((some false).map Sum.inr) (some (.inl ((w64 (x321 + (if 1 > y351.Size then 1 else y351.Size))),(w64 (x322 + 1))))))
noncomputable def Ex (p0 : Au) (x321 : Int) (x322 : Int) : Option ((Int × Int) ⊕ (Bool)) :=
 cond (decide (x322 < ((p0.Chans).length : Int))) ((lAt p0.Chans x322).bind fun y351 => (Fx y351.Name).bind fun y373 => cond (!y373) (F2 x321 x322 y351 true) (cond (decide (y351.Size < 0)) (F2 x321 x322 y351 true) (cond (decide (16 < y351.Size)) (F2 x321 x322 y351 true) (F2 x321 x322 y351 (y351.Base != x321))))) ((some true).map Sum.inr)
noncomputable def E9 (p0 : Au) (x143 : Int) (x144 : Int) : Option ((Int × Int) ⊕ (Bool)) :=
 cond (decide (x144 < ((p0.Defs).length : Int))) ((lAt p0.Defs x144).bind fun y205 => cond (y205.Name.toList == (⟨#[109,97,105,110]⟩ : ByteArray).toList) (GX p0 x143 x144 y205 true) ((Fx y205.Name).bind fun y260 => GX p0 x143 x144 y205 y260)) ((Loop (fun s : (Int × Int) => Ex p0 s.1 s.2) (0,0)).map Sum.inr)
noncomputable def DJ (p0 : Au) (x21 : Bool) : Option (Bool) :=
 cond x21 (some false) (Loop (fun s : (Int × Int) => E9 p0 s.1 s.2) ((-1),0))
noncomputable def H4 (p0 : Au) : Option (Bool) :=
 cond (decide (((p0.Defs).length : Int) < 1)) (DJ p0 true) (cond (decide (32 < ((p0.Defs).length : Int))) (DJ p0 true) (cond (decide (65536 < ((p0.Ins).length : Int))) (DJ p0 true) (cond (decide (p0.Main < 0)) (DJ p0 true) (cond (decide (((p0.Defs).length : Int) ≤ p0.Main)) (DJ p0 true) ((lAt p0.Defs p0.Main).bind fun y384 => DJ p0 (y384.Params != 0))))))
noncomputable def ER (p1 : Int) (o0 : As) : Option (As) :=
 (lAt o0.Code.Defs p1).bind fun y3 => (lAt o0.Code.Defs p1).bind fun y4 => cond (decide ((w64 (p1 + 1)) < ((o0.Code.Defs).length : Int))) ((lAt o0.Code.Defs (w64 (p1 + 1))).bind fun y6 => some (⟨o0.Code,o0.marks,y3.Entry,y6.Entry,y4.Vars⟩ : As)) (some (⟨o0.Code,o0.marks,y3.Entry,((o0.Code.Ins).length : Int),y4.Vars⟩ : As))
noncomputable def M3  : Option ((List Al)) :=
 grd ((([(⟨(⟨#[]⟩ : ByteArray),0,0,0⟩ : Al),(⟨(⟨#[109,97,114,107]⟩ : ByteArray),1,0,0⟩ : Al),(⟨(⟨#[112,117,115,104]⟩ : ByteArray),1,0,1⟩ : Al),(⟨(⟨#[108,111,97,100]⟩ : ByteArray),1,0,1⟩ : Al),(⟨(⟨#[115,116,111,114,101]⟩ : ByteArray),1,1,0⟩ : Al),(⟨(⟨#[97,112,112,108,121]⟩ : ByteArray),1,0,1⟩ : Al),(⟨(⟨#[106,117,109,112]⟩ : ByteArray),1,0,0⟩ : Al),(⟨(⟨#[122,101,114,111]⟩ : ByteArray),1,1,0⟩ : Al),(⟨(⟨#[111,110,101]⟩ : ByteArray),1,1,0⟩ : Al),(⟨(⟨#[99,104,97,110]⟩ : ByteArray),2,0,1⟩ : Al),(⟨(⟨#[115,101,110,100]⟩ : ByteArray),0,2,0⟩ : Al),(⟨(⟨#[114,101,99,118]⟩ : ByteArray),1,1,0⟩ : Al),(⟨(⟨#[100,114,97,119]⟩ : ByteArray),1,1,0⟩ : Al),(⟨(⟨#[115,108,101,101,112]⟩ : ByteArray),0,1,0⟩ : Al),(⟨(⟨#[115,116,97,114,116]⟩ : ByteArray),2,0,0⟩ : Al),(⟨(⟨#[112,114,105,110,116]⟩ : ByteArray),0,1,0⟩ : Al),(⟨(⟨#[97,115,115,101,114,116]⟩ : ByteArray),0,1,0⟩ : Al),(⟨(⟨#[115,107,105,112]⟩ : ByteArray),0,0,0⟩ : Al),(⟨(⟨#[115,116,111,112]⟩ : ByteArray),0,0,0⟩ : Al),(⟨(⟨#[111,110,114,101,99,118]⟩ : ByteArray),2,1,0⟩ : Al),(⟨(⟨#[111,110,115,101,110,100]⟩ : ByteArray),1,2,0⟩ : Al),(⟨(⟨#[97,102,116,101,114]⟩ : ByteArray),1,1,0⟩ : Al),(⟨(⟨#[101,108,115,101]⟩ : ByteArray),1,0,0⟩ : Al),(⟨(⟨#[115,101,108,101,99,116]⟩ : ByteArray),0,0,0⟩ : Al),(⟨(⟨#[101,110,100]⟩ : ByteArray),0,0,0⟩ : Al),(⟨(⟨#[99,104,111,111,115,101]⟩ : ByteArray),0,0,0⟩ : Al)] : List Al)).length = 26 ∧ ((List.replicate 26 (⟨(⟨#[]⟩ : ByteArray),0,0,0⟩ : Al))).length = 26) <| grd ((([(⟨(⟨#[]⟩ : ByteArray),0,0,0⟩ : Al),(⟨(⟨#[109,97,114,107]⟩ : ByteArray),1,0,0⟩ : Al),(⟨(⟨#[112,117,115,104]⟩ : ByteArray),1,0,1⟩ : Al),(⟨(⟨#[108,111,97,100]⟩ : ByteArray),1,0,1⟩ : Al),(⟨(⟨#[115,116,111,114,101]⟩ : ByteArray),1,1,0⟩ : Al),(⟨(⟨#[97,112,112,108,121]⟩ : ByteArray),1,0,1⟩ : Al),(⟨(⟨#[106,117,109,112]⟩ : ByteArray),1,0,0⟩ : Al),(⟨(⟨#[122,101,114,111]⟩ : ByteArray),1,1,0⟩ : Al),(⟨(⟨#[111,110,101]⟩ : ByteArray),1,1,0⟩ : Al),(⟨(⟨#[99,104,97,110]⟩ : ByteArray),2,0,1⟩ : Al),(⟨(⟨#[115,101,110,100]⟩ : ByteArray),0,2,0⟩ : Al),(⟨(⟨#[114,101,99,118]⟩ : ByteArray),1,1,0⟩ : Al),(⟨(⟨#[100,114,97,119]⟩ : ByteArray),1,1,0⟩ : Al),(⟨(⟨#[115,108,101,101,112]⟩ : ByteArray),0,1,0⟩ : Al),(⟨(⟨#[115,116,97,114,116]⟩ : ByteArray),2,0,0⟩ : Al),(⟨(⟨#[112,114,105,110,116]⟩ : ByteArray),0,1,0⟩ : Al),(⟨(⟨#[97,115,115,101,114,116]⟩ : ByteArray),0,1,0⟩ : Al),(⟨(⟨#[115,107,105,112]⟩ : ByteArray),0,0,0⟩ : Al),(⟨(⟨#[115,116,111,112]⟩ : ByteArray),0,0,0⟩ : Al),(⟨(⟨#[111,110,114,101,99,118]⟩ : ByteArray),2,1,0⟩ : Al),(⟨(⟨#[111,110,115,101,110,100]⟩ : ByteArray),1,2,0⟩ : Al),(⟨(⟨#[97,102,116,101,114]⟩ : ByteArray),1,1,0⟩ : Al),(⟨(⟨#[101,108,115,101]⟩ : ByteArray),1,0,0⟩ : Al),(⟨(⟨#[115,101,108,101,99,116]⟩ : ByteArray),0,0,0⟩ : Al),(⟨(⟨#[101,110,100]⟩ : ByteArray),0,0,0⟩ : Al),(⟨(⟨#[99,104,111,111,115,101]⟩ : ByteArray),0,0,0⟩ : Al)] : List Al)).length = 26) <| some ([(⟨(⟨#[]⟩ : ByteArray),0,0,0⟩ : Al),(⟨(⟨#[109,97,114,107]⟩ : ByteArray),1,0,0⟩ : Al),(⟨(⟨#[112,117,115,104]⟩ : ByteArray),1,0,1⟩ : Al),(⟨(⟨#[108,111,97,100]⟩ : ByteArray),1,0,1⟩ : Al),(⟨(⟨#[115,116,111,114,101]⟩ : ByteArray),1,1,0⟩ : Al),(⟨(⟨#[97,112,112,108,121]⟩ : ByteArray),1,0,1⟩ : Al),(⟨(⟨#[106,117,109,112]⟩ : ByteArray),1,0,0⟩ : Al),(⟨(⟨#[122,101,114,111]⟩ : ByteArray),1,1,0⟩ : Al),(⟨(⟨#[111,110,101]⟩ : ByteArray),1,1,0⟩ : Al),(⟨(⟨#[99,104,97,110]⟩ : ByteArray),2,0,1⟩ : Al),(⟨(⟨#[115,101,110,100]⟩ : ByteArray),0,2,0⟩ : Al),(⟨(⟨#[114,101,99,118]⟩ : ByteArray),1,1,0⟩ : Al),(⟨(⟨#[100,114,97,119]⟩ : ByteArray),1,1,0⟩ : Al),(⟨(⟨#[115,108,101,101,112]⟩ : ByteArray),0,1,0⟩ : Al),(⟨(⟨#[115,116,97,114,116]⟩ : ByteArray),2,0,0⟩ : Al),(⟨(⟨#[112,114,105,110,116]⟩ : ByteArray),0,1,0⟩ : Al),(⟨(⟨#[97,115,115,101,114,116]⟩ : ByteArray),0,1,0⟩ : Al),(⟨(⟨#[115,107,105,112]⟩ : ByteArray),0,0,0⟩ : Al),(⟨(⟨#[115,116,111,112]⟩ : ByteArray),0,0,0⟩ : Al),(⟨(⟨#[111,110,114,101,99,118]⟩ : ByteArray),2,1,0⟩ : Al),(⟨(⟨#[111,110,115,101,110,100]⟩ : ByteArray),1,2,0⟩ : Al),(⟨(⟨#[97,102,116,101,114]⟩ : ByteArray),1,1,0⟩ : Al),(⟨(⟨#[101,108,115,101]⟩ : ByteArray),1,0,0⟩ : Al),(⟨(⟨#[115,101,108,101,99,116]⟩ : ByteArray),0,0,0⟩ : Al),(⟨(⟨#[101,110,100]⟩ : ByteArray),0,0,0⟩ : Al),(⟨(⟨#[99,104,111,111,115,101]⟩ : ByteArray),0,0,0⟩ : Al)] : List Al)
noncomputable def JK (p0 : Int) (x6 : Bool) : Option (Al × Bool) :=
 cond x6 (some ((⟨(⟨#[]⟩ : ByteArray),0,0,0⟩ : Al),false)) ((M3).bind fun y10 => (aAt 26 y10 p0).bind fun y11 => some (y11,true))
noncomputable def Kt (p0 : Int) : Option (Al × Bool) :=
 cond (decide (p0 < 1)) (JK p0 true) (JK p0 (decide (25 < p0)))
noncomputable def I3 (x13 : Bool) : Option (Int) :=
 cond x13 (some 2) (some 0)
noncomputable def H5 (p0 : Int) (x10 : Bool) : Option (Int) :=
 cond x10 (some 1) (cond (decide (5 ≤ p0)) (I3 (decide (p0 ≤ 17))) (I3 false))
noncomputable def GE (p0 : Int) : Option (Int) :=
 cond (p0 == 3) (H5 p0 true) (H5 p0 (p0 == 4))
noncomputable def Ge (x28 : Bool) : Option (Bool) :=
 some x28
noncomputable def Gf (p0 : Ac) (x20 : Bool) : Option (Bool) :=
 cond x20 (some false) (cond (p0.Op != 14) (cond (p0.Op != 5) (Ge true) ((GE p0.A).bind fun y31 => Ge (decide (0 < y31)))) (cond (decide (0 ≤ p0.B)) (cond (p0.Op != 5) (Ge true) ((GE p0.A).bind fun y34 => Ge (decide (0 < y34)))) (Ge false)))
noncomputable def C3 (p0 : Ac) : Option (Bool) :=
 (Kt p0.Op).bind fun y2 => cond (!y2.2) (Gf p0 true) (cond (decide (y2.1.nums < 1)) (cond (p0.A != 0) (Gf p0 true) (cond (decide (y2.1.nums < 2)) (Gf p0 (p0.B != 0)) (Gf p0 false))) (cond (decide (y2.1.nums < 2)) (Gf p0 (p0.B != 0)) (Gf p0 false)))
noncomputable def En (x2 : Bool) : Option (Bool) :=
 some x2
noncomputable def Gt (p0 : Ak) (o0 : Ac) : Option (Bool) :=
 cond (p0.Base == o0.A) (En (p0.Size == o0.B)) (En false)
noncomputable def Ay (p0 : (List Ak)) (o0 : Ac) (x20 : Int) : Option ((Int) ⊕ (Int)) :=
 cond (decide (x20 < ((p0).length : Int))) ((lAt p0 x20).bind fun y32 => (Gt y32 o0).bind fun y33 => cond y33 ((some x20).map Sum.inr) (some (.inl (w64 (x20 + 1))))) ((some (-1)).map Sum.inr)
noncomputable def BJ (p0 : (List Ak)) (o0 : Ac) : Option (Int) :=
 Loop (fun s : (Int) => Ay p0 o0 s) 0
noncomputable def AI (p0 : (List Ak)) (o0 : Ac) : Option (Bool) :=
 (BJ p0 o0).bind fun y2 => some (decide (0 ≤ y2))
noncomputable def EU (p0 : Ac) (x19 : Bool) : Option (Int × Bool) :=
 cond x19 (some (p0.A,true)) (cond (p0.Op == 19) (some (p0.B,true)) (some (0,false)))
noncomputable def DH (p0 : Ac) : Option (Int × Bool) :=
 cond (p0.Op == 6) (EU p0 (p0.Op == 6)) (cond (p0.Op == 7) (EU p0 (p0.Op == 7)) (cond (p0.Op == 8) (EU p0 (p0.Op == 8)) (cond (p0.Op == 20) (EU p0 (p0.Op == 20)) (cond (p0.Op == 21) (EU p0 (p0.Op == 21)) (EU p0 (p0.Op == 22))))))
noncomputable def Ep (x5 : Bool) : Option (Bool) :=
 some x5
noncomputable def BS (p1 : Int) (p2 : Int) (o0 : As) : Option (Bool) :=
 cond (decide (o0.from_ ≤ p2)) (cond (decide (p2 < o0.to)) (cond (decide (p1 < p2)) (Ep true) ((lAt o0.Code.Ins p2).bind fun y9 => Ep (y9.Op == 1))) (Ep false)) (Ep false)
noncomputable def Ea (x27 : Bool) : Option (Bool) :=
 cond x27 (some true) (some false)
noncomputable def Ii (p0 : Int) : Option (Bool) :=
 cond (p0 == 4) (Ea (p0 == 4)) (cond (p0 == 10) (Ea (p0 == 10)) (cond (p0 == 11) (Ea (p0 == 11)) (cond (p0 == 12) (Ea (p0 == 12)) (cond (p0 == 13) (Ea (p0 == 13)) (cond (p0 == 14) (Ea (p0 == 14)) (cond (p0 == 15) (Ea (p0 == 15)) (cond (p0 == 16) (Ea (p0 == 16)) (Ea (p0 == 17)))))))))
noncomputable def GC (x4 : Bool) : Option (Bool) :=
 some x4
noncomputable def DI (p0 : Int) : Option (Bool) :=
 cond (p0 == 19) (GC true) (cond (p0 == 20) (GC true) (cond (p0 == 21) (GC true) (GC (p0 == 22))))
noncomputable def Fa (p0 : Au) (x45 : Int) (x46 : Int) (x79 : Bool) : Option ((Int × Int) ⊕ (Int)) :=
 cond x79 ((some x45).map Sum.inr) ((lAt p0.Ins x45).bind fun y83 => some (.inl (y83.A,(w64 (x46 + 1)))))
noncomputable def Ey (p0 : Au) (p1 : Int) (x45 : Int) (x46 : Int) : Option ((Int × Int) ⊕ (Int)) :=
 cond (decide (x46 < (w64 (((p0.Ins).length : Int) + 1)))) (cond (decide (x45 < 0)) (Fa p0 x45 x46 true) (cond (decide (((p0.Ins).length : Int) ≤ x45)) (Fa p0 x45 x46 true) ((lAt p0.Ins x45).bind fun y86 => Fa p0 x45 x46 (y86.Op != 6)))) ((some p1).map Sum.inr)
noncomputable def IM (p0 : Au) (p1 : Int) : Option (Int) :=
 Loop (fun s : (Int × Int) => Ey p0 p1 s.1 s.2) (p1,0)
noncomputable def Em (x8 : Bool) : Option (Bool) :=
 some x8
noncomputable def Bj (p1 : Int) (o0 : As) : Option (Bool) :=
 (IM o0.Code p1).bind fun y2 => cond (decide (o0.from_ ≤ y2)) (cond (decide (y2 < o0.to)) ((lAt o0.Code.Ins y2).bind fun y11 => cond (y11.Op == 1) (Em true) ((lAt o0.Code.Ins y2).bind fun y13 => Em (y13.Op == 24))) (Em false)) (Em false)
noncomputable def D8 (x66 : Bool) : Option (Bool) :=
 some x66
noncomputable def Bw (p1 : Int) (o0 : As) (y2 : Ac) (y42 : Int × Bool) (x54 : Bool) : Option (Bool) :=
 cond x54 (some false) ((Ii y2.Op).bind fun y67 => cond (!y67) ((DI y2.Op).bind fun y69 => cond (!y69) (D8 true) ((Bj y42.1 o0).bind fun y71 => D8 y71)) ((Bj (w64 (p1 + 1)) o0).bind fun y72 => cond y72 ((DI y2.Op).bind fun y74 => cond (!y74) (D8 true) ((Bj y42.1 o0).bind fun y76 => D8 y76)) (D8 false)))
noncomputable def AE (p1 : Int) (o0 : As) (y2 : Ac) (x40 : Bool) : Option (Bool) :=
 (DH y2).bind fun y42 => cond (!x40) (Bw p1 o0 y2 y42 true) (cond y42.2 ((BS p1 y42.1 o0).bind fun y79 => Bw p1 o0 y2 y42 (!y79)) (Bw p1 o0 y2 y42 false))
noncomputable def D7 (p1 : Int) (o0 : As) (y2 : Ac) (x85 : Bool) : Option (Bool) :=
 cond x85 (cond (decide (0 ≤ y2.A)) (AE p1 o0 y2 (decide (y2.A < o0.vars))) (AE p1 o0 y2 false)) (cond (y2.Op == 9) ((AI o0.Code.Chans y2).bind fun y89 => AE p1 o0 y2 y89) (cond (y2.Op == 14) (cond (decide (0 ≤ y2.A)) (cond (decide (y2.A < ((o0.Code.Defs).length : Int))) ((lAt o0.Code.Defs y2.A).bind fun y93 => AE p1 o0 y2 (y2.B == y93.Params)) (AE p1 o0 y2 false)) (AE p1 o0 y2 false)) (AE p1 o0 y2 true)))
noncomputable def BI (p1 : Int) (o0 : As) (y2 : Ac) (x20 : Bool) : Option (Bool) :=
 cond x20 (some false) (cond (y2.Op == 1) (AE p1 o0 y2 (y2.A == o0.marks)) (cond (y2.Op == 3) (D7 p1 o0 y2 (y2.Op == 3)) (cond (y2.Op == 4) (D7 p1 o0 y2 (y2.Op == 4)) (cond (y2.Op == 11) (D7 p1 o0 y2 (y2.Op == 11)) (cond (y2.Op == 12) (D7 p1 o0 y2 (y2.Op == 12)) (D7 p1 o0 y2 (y2.Op == 19)))))))
noncomputable def Eo (p1 : Int) (o0 : As) : Option (Bool) :=
 (lAt o0.Code.Ins p1).bind fun y2 => (C3 y2).bind fun y98 => cond (!y98) (BI p1 o0 y2 true) (cond (!((y2.Op == 24) == (p1 == (w64 (o0.to - 1))))) (BI p1 o0 y2 true) (cond (p1 == o0.from_) (cond (y2.Op != 1) (BI p1 o0 y2 (y2.Op != 24)) (BI p1 o0 y2 false)) (BI p1 o0 y2 false)))
noncomputable def HJ (p0 : Ac) (y2 : Al × Bool) (x21 : Bool) : Option (Int) :=
 cond x21 (some 1) (cond (p0.Op == 14) (some p0.B) (some y2.1.takes))
noncomputable def E8 (p0 : Ac) : Option (Int) :=
 (Kt p0.Op).bind fun y2 => (C3 p0).bind fun y15 => cond (!y15) (some 0) (cond (p0.Op == 5) ((GE p0.A).bind fun y19 => some y19) (cond (p0.Op == 9) (HJ p0 y2 (decide (0 < p0.B))) (HJ p0 y2 false)))
noncomputable def Jn (y10 : Al × Bool) (x13 : Bool) : Option (Int) :=
 cond x13 (some y10.1.gives) (some 0)
noncomputable def HO (p0 : Ac) : Option (Int) :=
 (Kt p0.Op).bind fun y10 => cond y10.2 ((C3 p0).bind fun y16 => Jn y10 y16) (Jn y10 false)
noncomputable def A8 (p0 : Ac) (p1 : Aj) (y2 : Int) (x23 : Bool) (x24 : Bool) : Option (Aj × Bool) :=
 (HO p0).bind fun y26 => some ((⟨(w64 ((w64 (p1.n - y2)) + y26)),x24⟩ : Aj),x23)
noncomputable def Jo (p0 : Ac) (p1 : Aj) (y2 : Int) (x39 : Bool) : Option (Aj × Bool) :=
 cond x39 (cond ((w64 (p1.n - y2)) == 0) (A8 p0 p1 y2 (!p1.choose) p1.choose) (A8 p0 p1 y2 false p1.choose)) (A8 p0 p1 y2 (decide (0 ≤ (w64 (p1.n - y2)))) p1.choose)
noncomputable def Ir (p0 : Ac) (p1 : Aj) (y2 : Int) (x29 : Bool) : Option (Aj × Bool) :=
 cond x29 (A8 p0 p1 y2 ((p1.n == 0) && ((p1.choose == false) && true)) (p0.Op == 25)) (cond (p0.Op == 23) (A8 p0 p1 y2 ((p1.n == 0) && ((p1.choose == true) && true)) p1.choose) ((DI p0.Op).bind fun y33 => cond y33 (cond ((w64 (p1.n - y2)) == 0) (A8 p0 p1 y2 p1.choose p1.choose) (A8 p0 p1 y2 false p1.choose)) ((Ii p0.Op).bind fun y43 => cond y43 (Jo p0 p1 y2 y43) (Jo p0 p1 y2 (p0.Op == 18)))))
noncomputable def CY (p0 : Ac) (p1 : Aj) : Option (Aj × Bool) :=
 (E8 p0).bind fun y2 => cond (p0.Op == 1) (Ir p0 p1 y2 (p0.Op == 1)) (cond (p0.Op == 24) (Ir p0 p1 y2 (p0.Op == 24)) (Ir p0 p1 y2 (p0.Op == 25)))
noncomputable def Bl (p0 : Int) (p1 : Aj) (o2_0 : Int) (o3_0 : Bool) (o1 : (List (Int × Aj))) : Option (Bool × (List (Int × Aj))) :=
 Let (mGet o1 p0) fun y2 => cond (decide (p0 ≤ o2_0)) (cond o3_0 (some (((p1.n == 0) && ((p1.choose == false) && true)),o1)) (some (false,o1))) (cond y2.isSome (cond o3_0 (some (((p1.n == ((y2.getD (⟨0,false⟩ : Aj)).n)) && ((p1.choose == ((y2.getD (⟨0,false⟩ : Aj)).choose)) && true)),o1)) (some (false,o1))) (some (o3_0,(mPut o1 p0 p1))))
noncomputable def G4 (x139 : Int) (x207 : (List (Int × Aj))) : Option (((List (Int × Aj)) × Int) ⊕ (Int × Bool)) :=
 some (.inl (x207,(w64 (x139 + 1))))
noncomputable def FW (x139 : Int) (x245 : (List (Int × Aj))) (x246 : Bool) : Option (((List (Int × Aj)) × Int) ⊕ (Int × Bool)) :=
 cond (!x246) ((some (x139,false)).map Sum.inr) (G4 x139 x245)
noncomputable def Cf (x139 : Int) (y220 : Aj × Bool) (x232 : (List (Int × Aj))) (x233 : Bool) (x254 : Bool) : Option (((List (Int × Aj)) × Int) ⊕ (Int × Bool)) :=
 cond x254 ((Bl (w64 (x139 + 1)) y220.1 x139 x233 x232).bind fun y256 => FW x139 y256.2 y256.1) (FW x139 x232 x233)
noncomputable def Bn (x139 : Int) (y211 : Ac) (y220 : Aj × Bool) (x232 : (List (Int × Aj))) (x233 : Bool) : Option (((List (Int × Aj)) × Int) ⊕ (Int × Bool)) :=
 cond x233 (cond (y211.Op != 6) (cond (y211.Op != 18) (cond (y211.Op != 23) (Cf x139 y220 x232 x233 (y211.Op != 24)) (Cf x139 y220 x232 x233 false)) (Cf x139 y220 x232 x233 false)) (Cf x139 y220 x232 x233 false)) (Cf x139 y220 x232 x233 false)
noncomputable def Bm (x138 : (List (Int × Aj))) (x139 : Int) (y211 : Ac) (y220 : Aj × Bool) (y262 : Int × Bool) (x264 : Bool) : Option (((List (Int × Aj)) × Int) ⊕ (Int × Bool)) :=
 cond x264 ((DI y211.Op).bind fun y267 => cond y267 ((Bl y262.1 (⟨0,false⟩ : Aj) x139 y220.2 x138).bind fun y269 => Bn x139 y211 y220 y269.2 y269.1) ((Bl y262.1 y220.1 x139 y220.2 x138).bind fun y270 => Bn x139 y211 y220 y270.2 y270.1)) (Bn x139 y211 y220 x138 y220.2)
noncomputable def FX (x138 : (List (Int × Aj))) (x139 : Int) (y209 : (Option Aj)) (y211 : Ac) (x217 : Bool) : Option (((List (Int × Aj)) × Int) ⊕ (Int × Bool)) :=
 cond x217 (G4 x139 x138) ((CY y211 (y209.getD (⟨0,false⟩ : Aj))).bind fun y220 => (DH y211).bind fun y262 => cond y262.2 (Bm x138 x139 y211 y220 y262 y220.2) (Bm x138 x139 y211 y220 y262 false))
noncomputable def BD (o0 : As) (x138 : (List (Int × Aj))) (x139 : Int) : Option (((List (Int × Aj)) × Int) ⊕ (Int × Bool)) :=
 cond (decide (x139 < o0.to)) (Let (mGet x138 x139) fun y209 => (lAt o0.Code.Ins x139).bind fun y211 => cond (!y209.isSome) (FX x138 x139 y209 y211 (y211.Op != 1)) (FX x138 x139 y209 y211 false)) ((some (0,true)).map Sum.inr)
noncomputable def EV (o0 : As) : Option (Int × Bool) :=
 Loop (fun s : ((List (Int × Aj)) × Int) => BD o0 s.1 s.2) (([(o0.from_,(⟨0,false⟩ : Aj))] : List (Int × Aj)),o0.from_)
noncomputable def I2 (x134 : Int) (x149 : Int) : Option ((Int × Int) ⊕ ((Int × (List Ac) × (List Ao) × (List Ak) × Int × Int × Int × Int × Int × Int) ⊕ (Int × Int))) :=
 some (.inl ((w64 (x134 + 1)),x149))
noncomputable def Cn (p0 : Au) (x87 : Int) (y133 : As) (x134 : Int) (x135 : Int) : Option ((Int × Int) ⊕ ((Int × (List Ac) × (List Ao) × (List Ak) × Int × Int × Int × Int × Int × Int) ⊕ (Int × Int))) :=
 cond (decide (x134 < y133.to)) ((Eo x134 (⟨y133.Code,x135,y133.from_,y133.to,y133.vars⟩ : As)).bind fun y154 => cond (!y154) (((some (x134,15)).map Sum.inr).map Sum.inr) ((lAt p0.Ins x134).bind fun y161 => cond (y161.Op == 1) (I2 x134 (w64 (x135 + 1))) (I2 x134 x135))) ((some (.inl ((w64 (x87 + 1)),y133.Code.Ins,y133.Code.Defs,y133.Code.Chans,y133.Code.Main,y133.Code.Stmts,x135,y133.from_,y133.to,y133.vars))).map Sum.inr)
noncomputable def C4 (p0 : Au) (x197 : Int) (x198 : (List Ac)) (x199 : (List Ao)) (x200 : (List Ak)) (x201 : Int) (x202 : Int) (x203 : Int) (x204 : Int) (x205 : Int) (x206 : Int) : Option ((Int × (List Ac) × (List Ao) × (List Ak) × Int × Int × Int × Int × Int × Int) ⊕ (Int × Int)) :=
 cond (decide (x197 < ((p0.Defs).length : Int))) ((ER x197 (⟨(⟨x198,x199,x200,x201,x202⟩ : Au),x203,x204,x205,x206⟩ : As)).bind fun y217 => (EV y217).bind fun y219 => cond (!y219.2) ((some (y219.1,14)).map Sum.inr) (some (.inl ((w64 (x197 + 1)),y217.Code.Ins,y217.Code.Defs,y217.Code.Chans,y217.Code.Main,y217.Code.Stmts,y217.marks,y217.from_,y217.to,y217.vars)))) ((some (0,0)).map Sum.inr)
noncomputable def FH (p0 : Au) (x87 : Int) (x88 : (List Ac)) (x89 : (List Ao)) (x90 : (List Ak)) (x91 : Int) (x92 : Int) (x93 : Int) (x94 : Int) (x95 : Int) (x96 : Int) : Option ((Int × (List Ac) × (List Ao) × (List Ak) × Int × Int × Int × Int × Int × Int) ⊕ (Int × Int)) :=
 cond (decide (x87 < ((p0.Defs).length : Int))) ((ER x87 (⟨(⟨x88,x89,x90,x91,x92⟩ : Au),x93,x94,x95,x96⟩ : As)).bind fun y133 => Loop (fun s : (Int × Int) => Cn p0 x87 y133 s.1 s.2) (y133.from_,y133.marks)) ((cond (x93 != p0.Stmts) (some (0,3)) (Loop (fun s : (Int × (List Ac) × (List Ao) × (List Ak) × Int × Int × Int × Int × Int × Int) => C4 p0 s.1 s.2.1 s.2.2.1 s.2.2.2.1 s.2.2.2.2.1 s.2.2.2.2.2.1 s.2.2.2.2.2.2.1 s.2.2.2.2.2.2.2.1 s.2.2.2.2.2.2.2.2.1 s.2.2.2.2.2.2.2.2.2) (0,x88,x89,x90,x91,x92,x93,x94,x95,x96))).map Sum.inr)
noncomputable def Cr (p0 : Au) : Option (Int × Int) :=
 (H4 p0).bind fun y5 => cond (!y5) (some (0,3)) (Loop (fun s : (Int × (List Ac) × (List Ao) × (List Ak) × Int × Int × Int × Int × Int × Int) => FH p0 s.1 s.2.1 s.2.2.1 s.2.2.2.1 s.2.2.2.2.1 s.2.2.2.2.2.1 s.2.2.2.2.2.2.1 s.2.2.2.2.2.2.2.1 s.2.2.2.2.2.2.2.2.1 s.2.2.2.2.2.2.2.2.2) (0,p0.Ins,p0.Defs,p0.Chans,p0.Main,p0.Stmts,0,0,0,0))
noncomputable def De (p0 : (List Ao)) : Option ((List Ao)) :=
 some p0
noncomputable def Jj (p0 : Int) (p1 : Ao) (o1_0 : Int) (o2_0 : Int) : Option ((Int) ⊕ (Unit)) :=
 cond (decide (p1.Entry ≤ o1_0)) (some (.inl p0)) (some (.inr ()))
noncomputable def BF (x19 : Int) : Option ((Int) ⊕ ((Int) ⊕ (Unit))) :=
 (some (.inl x19)).map Sum.inr
noncomputable def BE (x1 : Int) : Option ((Int) ⊕ ((Int) ⊕ (Unit))) :=
 some (.inl (w64 (x1 - 1)))
noncomputable def CM (o1_0 : Int) (o2_0 : Int) (o3_0 : (List Ao)) (x1 : Int) : Option ((Int) ⊕ ((Int) ⊕ (Unit))) :=
 cond (decide (0 ≤ x1)) ((lAt o3_0 x1).bind fun y22 => (Jj x1 y22 o1_0 o2_0).bind fun y23 => (Sum.elim (fun y24 => BF y24) (fun y25 => BE x1)) y23) ((some (.inr ())).map Sum.inr)
noncomputable def Bd (o1_0 : Int) (o2_0 : Int) (o3_0 : (List Ao)) : Option ((Int) ⊕ (Unit)) :=
 Loop (fun s : (Int) => CM o1_0 o2_0 o3_0 s) (w64 (((o3_0).length : Int) - 1))
noncomputable def Ij (p0 : Au) (p1 : Int) (x6 : Bool) : Option (Int) :=
 cond x6 (some (-1)) ((De p0.Defs).bind fun y14 => (Bd p1 0 y14).bind fun y15 => (Sum.elim (fun y16 => some y16) (fun y17 => some (-1))) y15)
noncomputable def It (p0 : Au) (p1 : Int) : Option (Int) :=
 cond (decide (p1 < 0)) (Ij p0 p1 true) (Ij p0 p1 (decide (((p0.Ins).length : Int) ≤ p1)))
noncomputable def Is (p0 : Au) (p1 : Int) (x12 : Bool) : Option (Int) :=
 cond x12 (some (-1)) ((lAt p0.Ins p1).bind fun y15 => some y15.A)
noncomputable def KY (p0 : Au) (p1 : Int) : Option (Int) :=
 cond (decide (p1 < 0)) (Is p0 p1 true) (cond (decide (((p0.Ins).length : Int) ≤ p1)) (Is p0 p1 true) ((lAt p0.Ins p1).bind fun y18 => Is p0 p1 (y18.Op != 1)))
noncomputable def DE (x13 : Bool) : Option (Bool) :=
 some x13
noncomputable def DO  : Option (Bool) :=
 (Cr (⟨[(⟨1,0,0⟩ : Ac),(⟨2,1,0⟩ : Ac),(⟨24,0,0⟩ : Ac)],[(⟨(⟨#[109,97,105,110]⟩ : ByteArray),0,0,0⟩ : Ao)],([] : (List Ak)),0,1⟩ : Au)).bind fun y2 => (lAt ([(⟨1,0,0⟩ : Ac),(⟨2,1,0⟩ : Ac),(⟨24,0,0⟩ : Ac)]) 1).bind fun y4 => (Cr (⟨(List.set ([(⟨1,0,0⟩ : Ac),(⟨2,1,0⟩ : Ac),(⟨24,0,0⟩ : Ac)]) (Int.toNat 1) (⟨17,0,0⟩ : Ac)),[(⟨(⟨#[109,97,105,110]⟩ : ByteArray),0,0,0⟩ : Ao)],([] : (List Ak)),0,1⟩ : Au)).bind fun y6 => cond (y2.1 == 2) (cond (y2.2 == 14) (cond (y6.2 == 0) ((It (⟨(List.set ([(⟨1,0,0⟩ : Ac),(⟨2,1,0⟩ : Ac),(⟨24,0,0⟩ : Ac)]) (Int.toNat 1) (⟨17,0,0⟩ : Ac)),[(⟨(⟨#[109,97,105,110]⟩ : ByteArray),0,0,0⟩ : Ao)],([] : (List Ak)),0,1⟩ : Au) 1).bind fun y17 => cond (y17 == 0) ((KY (⟨(List.set ([(⟨1,0,0⟩ : Ac),(⟨2,1,0⟩ : Ac),(⟨24,0,0⟩ : Ac)]) (Int.toNat 1) (⟨17,0,0⟩ : Ac)),[(⟨(⟨#[109,97,105,110]⟩ : ByteArray),0,0,0⟩ : Ao)],([] : (List Ak)),0,1⟩ : Au) 0).bind fun y19 => DE (y19 == 0)) (DE false)) (DE false)) (DE false)) (DE false)
noncomputable def El (x34 : Int) (x52 : Bool) : Option ((Int × Bool) ⊕ (Int)) :=
 some (.inl ((w64 (x34 + 1)),x52))
noncomputable def CJ (x34 : Int) (x35 : Bool) (x58 : Bool) : Option ((Int × Bool) ⊕ (Int)) :=
 cond x58 ((some x34).map Sum.inr) (El x34 x35)
noncomputable def Fu (p0 : ByteArray) (x34 : Int) (x35 : Bool) : Option ((Int × Bool) ⊕ (Int)) :=
 cond (decide (x34 < (p0.size : Int))) ((sAt p0 x34).bind fun y41 => cond (y41 == 10) (El x34 false) (cond (y41 == 35) (El x34 true) (cond (!x35) (cond (y41 != 9) (cond (y41 != 13) (CJ x34 x35 (y41 != 32)) (CJ x34 x35 false)) (CJ x34 x35 false)) (CJ x34 x35 false)))) ((some x34).map Sum.inr)
noncomputable def Gs (p0 : ByteArray) (p1 : Int) : Option (Int) :=
 Loop (fun s : (Int × Bool) => Fu p0 s.1 s.2) (p1,false)
noncomputable def Fv (x2 : Bool) : Option (Bool) :=
 some x2
noncomputable def BR (p0 : Int) : Option (Bool) :=
 cond (decide (48 ≤ p0)) (Fv (decide (p0 ≤ 57))) (Fv false)
noncomputable def BA (x7 : Bool) : Option (Bool) :=
 some x7
noncomputable def Bv (p0 : Int) : Option (Bool) :=
 cond (decide (97 ≤ p0)) (cond (decide (p0 ≤ 122)) (BA true) (cond (decide (65 ≤ p0)) (cond (decide (p0 ≤ 90)) (BA true) (BA (p0 == 95))) (BA (p0 == 95)))) (cond (decide (65 ≤ p0)) (cond (decide (p0 ≤ 90)) (BA true) (BA (p0 == 95))) (BA (p0 == 95)))
noncomputable def D3 (p0 : ByteArray) (p1 : Int) (p2 : Int) (x36 : Int) (x37 : Int) : Option ((Int × Int) ⊕ (Aw)) :=
 cond (decide (x37 < p2)) ((sAt p0 x37).bind fun y43 => some (.inl ((w64 ((w64 ((w64 (x36 * 10)) + (w64 y43))) - 48)),(w64 (x37 + 1))))) ((grd ((0 : Int) ≤ p1 ∧ (p1 : Int) ≤ p2 ∧ p2 ≤ (p0.size : Int)) <| some (⟨(⟨2,(p0.extract (Int.toNat p1) (Int.toNat p2)),x36,p1⟩ : Af),p2,0⟩ : Aw)).map Sum.inr)
noncomputable def D4 (p0 : ByteArray) (p1 : Int) (p2 : Int) (x24 : Bool) : Option (Aw) :=
 cond x24 (some (⟨(⟨0,(⟨#[]⟩ : ByteArray),0,0⟩ : Af),p1,3⟩ : Aw)) (Loop (fun s : (Int × Int) => D3 p0 p1 p2 s.1 s.2) (0,p1))
noncomputable def D5 (p0 : ByteArray) (p1 : Int) (p2 : Int) (x9 : Bool) : Option (Aw) :=
 cond x9 (some (⟨(⟨0,(⟨#[]⟩ : ByteArray),0,0⟩ : Af),p1,3⟩ : Aw)) (cond (decide (18 < (w64 (p2 - p1)))) (some (⟨(⟨0,(⟨#[]⟩ : ByteArray),0,0⟩ : Af),p1,5⟩ : Aw)) (cond (decide (p2 < (p0.size : Int))) ((sAt p0 p2).bind fun y49 => (Bv y49).bind fun y50 => D4 p0 p1 p2 y50) (D4 p0 p1 p2 false)))
noncomputable def F9 (p0 : ByteArray) (p1 : Int) (p2 : Int) : Option (Aw) :=
 (sAt p0 p1).bind fun y51 => cond (y51 == 48) (D5 p0 p1 p2 (decide ((w64 (p1 + 1)) < p2))) (D5 p0 p1 p2 false)
noncomputable def Dq  : Option ((List ByteArray)) :=
 some ([(⟨#[99,104,97,110]⟩ : ByteArray),(⟨#[112,114,111,99]⟩ : ByteArray),(⟨#[109,97,105,110]⟩ : ByteArray),(⟨#[118,97,114]⟩ : ByteArray),(⟨#[105,102]⟩ : ByteArray),(⟨#[101,108,115,101]⟩ : ByteArray),(⟨#[119,104,105,108,101]⟩ : ByteArray),(⟨#[115,101,108,101,99,116]⟩ : ByteArray),(⟨#[99,97,115,101]⟩ : ByteArray),(⟨#[119,104,101,110]⟩ : ByteArray),(⟨#[97,102,116,101,114]⟩ : ByteArray),(⟨#[115,116,97,114,116]⟩ : ByteArray),(⟨#[115,108,101,101,112]⟩ : ByteArray),(⟨#[114,97,110,100,111,109]⟩ : ByteArray),(⟨#[112,114,105,110,116]⟩ : ByteArray),(⟨#[97,115,115,101,114,116]⟩ : ByteArray),(⟨#[115,107,105,112]⟩ : ByteArray),(⟨#[115,116,111,112]⟩ : ByteArray)])
noncomputable def Fi (p1 : ByteArray) (o0 : (List ByteArray)) (x16 : Int) : Option ((Int) ⊕ (Bool)) :=
 cond (decide (x16 < ((o0).length : Int))) ((lAt o0 x16).bind fun y25 => cond (y25.toList == p1.toList) ((some true).map Sum.inr) (some (.inl (w64 (x16 + 1))))) ((some false).map Sum.inr)
noncomputable def D6 (p1 : ByteArray) (o0 : (List ByteArray)) : Option (Bool) :=
 Loop (fun s : (Int) => Fi p1 o0 s) 0
noncomputable def HE  : Option ((List ByteArray)) :=
 some ([(⟨#[61,61]⟩ : ByteArray),(⟨#[33,61]⟩ : ByteArray),(⟨#[60,61]⟩ : ByteArray),(⟨#[62,61]⟩ : ByteArray),(⟨#[38,38]⟩ : ByteArray),(⟨#[124,124]⟩ : ByteArray),(⟨#[123]⟩ : ByteArray),(⟨#[125]⟩ : ByteArray),(⟨#[40]⟩ : ByteArray),(⟨#[41]⟩ : ByteArray),(⟨#[91]⟩ : ByteArray),(⟨#[93]⟩ : ByteArray),(⟨#[59]⟩ : ByteArray),(⟨#[44]⟩ : ByteArray),(⟨#[58]⟩ : ByteArray),(⟨#[61]⟩ : ByteArray),(⟨#[33]⟩ : ByteArray),(⟨#[63]⟩ : ByteArray),(⟨#[43]⟩ : ByteArray),(⟨#[45]⟩ : ByteArray),(⟨#[42]⟩ : ByteArray),(⟨#[47]⟩ : ByteArray),(⟨#[37]⟩ : ByteArray),(⟨#[60]⟩ : ByteArray),(⟨#[62]⟩ : ByteArray)])
noncomputable def EO (p0 : ByteArray) (y9 : Int) (x87 : Int) (x101 : Bool) : Option ((Int) ⊕ (Aw)) :=
 cond x101 (some (.inl (w64 (x87 + 1)))) (((F9 p0 y9 x87).bind fun y106 => some y106).map Sum.inr)
noncomputable def G3 (p0 : ByteArray) (y9 : Int) (x87 : Int) : Option ((Int) ⊕ (Aw)) :=
 cond (decide (x87 < (p0.size : Int))) ((sAt p0 x87).bind fun y108 => (BR y108).bind fun y109 => EO p0 y9 x87 y109) (EO p0 y9 x87 false)
noncomputable def EN (p0 : ByteArray) (y9 : Int) (x238 : Int) (x274 : Int) : Option (Aw) :=
 grd ((0 : Int) ≤ y9 ∧ (y9 : Int) ≤ x238 ∧ x238 ≤ (p0.size : Int)) <| some (⟨(⟨x274,(p0.extract (Int.toNat y9) (Int.toNat x238)),0,y9⟩ : Af),x238,0⟩ : Aw)
noncomputable def DC (p0 : ByteArray) (y9 : Int) (x238 : Int) (x261 : Bool) : Option ((Int) ⊕ (Aw)) :=
 cond x261 (some (.inl (w64 (x238 + 1)))) ((cond (decide (16 < (w64 (x238 - y9)))) (some (⟨(⟨0,(⟨#[]⟩ : ByteArray),0,0⟩ : Af),y9,5⟩ : Aw)) ((Dq).bind fun y280 => grd ((0 : Int) ≤ y9 ∧ (y9 : Int) ≤ x238 ∧ x238 ≤ (p0.size : Int)) <| (D6 (p0.extract (Int.toNat y9) (Int.toNat x238)) y280).bind fun y282 => cond y282 (EN p0 y9 x238 3) (EN p0 y9 x238 1))).map Sum.inr)
noncomputable def G2 (p0 : ByteArray) (y9 : Int) (x238 : Int) : Option ((Int) ⊕ (Aw)) :=
 cond (decide (x238 < (p0.size : Int))) ((sAt p0 x238).bind fun y285 => (Bv y285).bind fun y286 => cond y286 (DC p0 y9 x238 true) ((sAt p0 x238).bind fun y288 => (BR y288).bind fun y289 => DC p0 y9 x238 y289)) (DC p0 y9 x238 false)
noncomputable def EM (y9 : Int) (y291 : (List ByteArray)) (x325 : Int) (y343 : ByteArray) (x347 : Bool) : Option ((Int) ⊕ (Aw)) :=
 cond x347 ((lAt y291 x325).bind fun y350 => (some (⟨(⟨4,y350,0,y9⟩ : Af),(w64 (y9 + (y343.size : Int))),0⟩ : Aw)).map Sum.inr) (some (.inl (w64 (x325 + 1))))
noncomputable def G1 (p0 : ByteArray) (y9 : Int) (y291 : (List ByteArray)) (x325 : Int) : Option ((Int) ⊕ (Aw)) :=
 cond (decide (x325 < ((y291).length : Int))) ((lAt y291 x325).bind fun y343 => cond (decide ((w64 (y9 + (y343.size : Int))) ≤ (p0.size : Int))) (grd ((0 : Int) ≤ y9 ∧ (y9 : Int) ≤ (w64 (y9 + (y343.size : Int))) ∧ (w64 (y9 + (y343.size : Int))) ≤ (p0.size : Int)) <| (lAt y291 x325).bind fun y355 => EM y9 y291 x325 y343 ((p0.extract (Int.toNat y9) (Int.toNat (w64 (y9 + (y343.size : Int))))).toList == y355.toList)) (EM y9 y291 x325 y343 false)) ((some (⟨(⟨0,(⟨#[]⟩ : ByteArray),0,0⟩ : Af),y9,10⟩ : Aw)).map Sum.inr)
noncomputable def EP (p0 : ByteArray) (p1 : Int) (x6 : Bool) : Option (Aw) :=
 cond x6 (some (⟨(⟨0,(⟨#[]⟩ : ByteArray),0,0⟩ : Af),0,1⟩ : Aw)) ((Gs p0 p1).bind fun y9 => cond (y9 == (p0.size : Int)) (some (⟨(⟨0,(⟨#[]⟩ : ByteArray),0,y9⟩ : Af),y9,0⟩ : Aw)) ((sAt p0 y9).bind fun y63 => (BR y63).bind fun y64 => cond y64 (Loop (fun s : (Int) => G3 p0 y9 s) y9) ((sAt p0 y9).bind fun y202 => (Bv y202).bind fun y203 => cond y203 (Loop (fun s : (Int) => G2 p0 y9 s) y9) ((HE).bind fun y291 => Loop (fun s : (Int) => G1 p0 y9 y291 s) 0))))
noncomputable def GS (p0 : ByteArray) (p1 : Int) : Option (Aw) :=
 cond (decide (p1 < 0)) (EP p0 p1 true) (EP p0 p1 (decide ((p0.size : Int) < p1)))
noncomputable def Ga (p0 : ByteArray) (x3 : Int) (x4 : Int) (x5 : (List Af)) : Option ((Int × Int × (List Af)) ⊕ (A6)) :=
 (GS p0 x3).bind fun y9 => cond (y9.E != 0) ((some (⟨([] : List Af),y9.Next,y9.E⟩ : A6)).map Sum.inr) (grd (((x5).length + ([y9.T]).length) * 40 ≤ 140737488355328) <| cond (y9.T.Kind == 0) ((some (⟨(x5 ++ [y9.T]),y9.T.At,0⟩ : A6)).map Sum.inr) (some (.inl (y9.Next,y9.T.At,(x5 ++ [y9.T])))))
noncomputable def Hb (p0 : ByteArray) : Option (A6) :=
 cond (decide (65536 < (p0.size : Int))) (some (⟨([] : List Af),0,5⟩ : A6)) (Loop (fun s : (Int × Int × (List Af)) => Ga p0 s.1 s.2.1 s.2.2) (0,0,([] : (List Af))))
noncomputable def Bs (p0 : Int) : Option (Ad) :=
 some (⟨([] : List Aa),0,p0,0⟩ : Ad)
noncomputable def A7 (p0 : (List Af)) (p1 : Int) : Option (Af) :=
 cond (decide (p1 < ((p0).length : Int))) ((lAt p0 p1).bind fun y6 => some y6) (some (⟨0,(⟨#[]⟩ : ByteArray),0,0⟩ : Af))
noncomputable def Gp (x5 : Bool) : Option (Bool) :=
 some x5
noncomputable def AM (p0 : (List Af)) (p1 : Int) (p2 : ByteArray) : Option (Bool) :=
 (A7 p0 p1).bind fun y2 => cond (y2.Kind == 3) (Gp (y2.Text.toList == p2.toList)) (cond (y2.Kind == 4) (Gp (y2.Text.toList == p2.toList)) (Gp false))
noncomputable def EW (p0 : Ad) (x7 : Int) (x9 : Int) : Option (Ad) :=
 some (⟨p0.l,p0.n,x9,x7⟩ : Ad)
noncomputable def CL (p0 : Ad) (x7 : Int) : Option (Ad) :=
 cond (x7 == 0) (EW p0 x7 (w64 (p0.at_ + 1))) (EW p0 x7 p0.at_)
noncomputable def B3 (p0 : Ad) (x13 : Bool) : Option (Ad) :=
 cond x13 (CL p0 11) (CL p0 p0.e)
noncomputable def Ai (p0 : Ad) (p1 : (List Af)) (p2 : ByteArray) : Option (Ad) :=
 cond (p0.e == 0) ((AM p1 p0.at_ p2).bind fun y16 => B3 p0 (!y16)) (B3 p0 false)
noncomputable def Dk (p0 : Ad) (y2 : Af) (x7 : Int) : Option (Ad × ByteArray) :=
 cond (x7 != 0) (some ((⟨p0.l,p0.n,p0.at_,x7⟩ : Ad),(⟨#[]⟩ : ByteArray))) (some ((⟨p0.l,p0.n,(w64 (p0.at_ + 1)),x7⟩ : Ad),y2.Text))
noncomputable def Dj (p0 : Ad) (y2 : Af) (x11 : Bool) : Option (Ad × ByteArray) :=
 cond x11 (Dk p0 y2 11) (Dk p0 y2 p0.e)
noncomputable def Bf (p0 : Ad) (p1 : (List Af)) : Option (Ad × ByteArray) :=
 (A7 p1 p0.at_).bind fun y2 => cond (p0.e == 0) (Dj p0 y2 (y2.Kind != 1)) (Dj p0 y2 false)
noncomputable def Dh (p0 : Ad) (y2 : Af) (x14 : Int) : Option (Ad × Int) :=
 cond (x14 != 0) (some ((⟨p0.l,p0.n,p0.at_,x14⟩ : Ad),0)) (some ((⟨p0.l,p0.n,(w64 (p0.at_ + 1)),x14⟩ : Ad),y2.N))
noncomputable def Cs (p0 : Ad) (y2 : Af) (x7 : Int) (x19 : Bool) : Option (Ad × Int) :=
 cond x19 (Dh p0 y2 6) (Dh p0 y2 x7)
noncomputable def Di (p0 : Ad) (y2 : Af) (x7 : Int) : Option (Ad × Int) :=
 cond (x7 == 0) (cond (decide (y2.N < 1)) (Cs p0 y2 x7 true) (Cs p0 y2 x7 (decide (16 < y2.N)))) (Cs p0 y2 x7 false)
noncomputable def Dg (p0 : Ad) (y2 : Af) (x24 : Bool) : Option (Ad × Int) :=
 cond x24 (Di p0 y2 11) (Di p0 y2 p0.e)
noncomputable def Fp (p0 : Ad) (p1 : (List Af)) : Option (Ad × Int) :=
 (A7 p1 p0.at_).bind fun y2 => cond (p0.e == 0) (Dg p0 y2 (y2.Kind != 2)) (Dg p0 y2 false)
noncomputable def Av (p0 : Ad) (p1 : Aa) : Option (Ad) :=
 grd ((([(⟨p1.Op,p1.Name,p1.N,p0.n,p1.At⟩ : Aa)]).length + (p0.l).length) * 48 ≤ 140737488355328) <| some (⟨([(⟨p1.Op,p1.Name,p1.N,p0.n,p1.At⟩ : Aa)] ++ p0.l),1,p0.at_,p0.e⟩ : Ad)
noncomputable def AR (p0 : Ad) (p1 : Ad) : Option (Ad) :=
 cond (p0.e != 0) (some p0) (grd (((([] : List Aa)).length + (p0.l).length) * 48 ≤ 140737488355328) <| grd ((((([] : List Aa) ++ p0.l)).length + (p1.l).length) * 48 ≤ 140737488355328) <| some (⟨((([] : List Aa) ++ p0.l) ++ p1.l),(w64 (p0.n + 1)),p1.at_,p1.e⟩ : Ad))
noncomputable def CZ (p0 : Ad) (p1 : (List Af)) : Option (Ad) :=
 cond (p0.e != 0) (some p0) ((Bs p0.at_).bind fun y5 => (Bf y5 p1).bind fun y6 => (A7 p1 p0.at_).bind fun y10 => (Av y6.1 (⟨39,y6.2,0,0,y10.At⟩ : Aa)).bind fun y11 => (AR p0 y11).bind fun y12 => some y12)
noncomputable def HA (p0 : ByteArray) (x16 : Int) : Option ((Int) ⊕ (Int)) :=
 cond (decide (x16 < (([(⟨#[43]⟩ : ByteArray),(⟨#[45]⟩ : ByteArray),(⟨#[42]⟩ : ByteArray),(⟨#[47]⟩ : ByteArray),(⟨#[37]⟩ : ByteArray),(⟨#[61,61]⟩ : ByteArray),(⟨#[33,61]⟩ : ByteArray),(⟨#[60]⟩ : ByteArray),(⟨#[60,61]⟩ : ByteArray),(⟨#[62]⟩ : ByteArray),(⟨#[62,61]⟩ : ByteArray),(⟨#[38,38]⟩ : ByteArray),(⟨#[124,124]⟩ : ByteArray)]).length : Int))) ((lAt ([(⟨#[43]⟩ : ByteArray),(⟨#[45]⟩ : ByteArray),(⟨#[42]⟩ : ByteArray),(⟨#[47]⟩ : ByteArray),(⟨#[37]⟩ : ByteArray),(⟨#[61,61]⟩ : ByteArray),(⟨#[33,61]⟩ : ByteArray),(⟨#[60]⟩ : ByteArray),(⟨#[60,61]⟩ : ByteArray),(⟨#[62]⟩ : ByteArray),(⟨#[62,61]⟩ : ByteArray),(⟨#[38,38]⟩ : ByteArray),(⟨#[124,124]⟩ : ByteArray)]) x16).bind fun y25 => cond (y25.toList == p0.toList) ((some (w64 (5 + x16))).map Sum.inr) (some (.inl (w64 (x16 + 1))))) ((some 0).map Sum.inr)
noncomputable def GA (p0 : ByteArray) : Option (Int) :=
 Loop (fun s : (Int) => HA p0 s) 0
noncomputable def Hz  : Option ((List (List ByteArray))) :=
 some ([[(⟨#[124,124]⟩ : ByteArray)],[(⟨#[38,38]⟩ : ByteArray)],[(⟨#[61,61]⟩ : ByteArray),(⟨#[33,61]⟩ : ByteArray),(⟨#[60]⟩ : ByteArray),(⟨#[60,61]⟩ : ByteArray),(⟨#[62]⟩ : ByteArray),(⟨#[62,61]⟩ : ByteArray)],[(⟨#[43]⟩ : ByteArray),(⟨#[45]⟩ : ByteArray)],[(⟨#[42]⟩ : ByteArray),(⟨#[47]⟩ : ByteArray),(⟨#[37]⟩ : ByteArray)]])
noncomputable def GR (p0 : Int) (y16 : (List (List ByteArray))) (x80 : Int) (x112 : Int) : Option ((Int) ⊕ ((Int) ⊕ (Int))) :=
 (lAt y16 x80).bind fun y119 => cond (decide (x112 < ((y119).length : Int))) ((lAt y16 x80).bind fun y131 => (lAt y131 x112).bind fun y132 => (GA y132).bind fun y133 => cond (y133 == p0) (((some (w64 (x80 + 1))).map Sum.inr).map Sum.inr) (some (.inl (w64 (x112 + 1))))) ((some (.inl (w64 (x80 + 1)))).map Sum.inr)
noncomputable def GQ (p0 : Int) (y16 : (List (List ByteArray))) (x80 : Int) : Option ((Int) ⊕ (Int)) :=
 cond (decide (x80 < ((y16).length : Int))) (Loop (fun s : (Int) => GR p0 y16 x80 s) 0) ((some 0).map Sum.inr)
noncomputable def Ej (p0 : Int) (x13 : Bool) : Option (Int) :=
 cond x13 (some 6) ((Hz).bind fun y16 => Loop (fun s : (Int) => GQ p0 y16 s) 0)
noncomputable def Ek (p0 : Int) (x6 : Bool) : Option (Int) :=
 cond x6 (some 7) (cond (p0 == 3) (Ej p0 true) (Ej p0 (p0 == 4)))
noncomputable def Gr (p0 : Int) : Option (Int) :=
 cond (p0 == 1) (Ek p0 true) (Ek p0 (p0 == 2))
noncomputable def E1 (sf1 : (List Af) → Int → Int → Int → Option (Ag)) (sf2 : (List Af) → Int → Int → Option (Ag))  (y41 : Ag) (x53 : Bool) : Option (Ag) :=
 cond x53 (some (⟨([] : List Aa),y41.At,11⟩ : Ag)) (some (⟨y41.L,(w64 (y41.At + 1)),0⟩ : Ag))
noncomputable def E0 (sf1 : (List Af) → Int → Int → Int → Option (Ag)) (sf2 : (List Af) → Int → Int → Option (Ag))  (y2 : Af) (y57 : Ag) (x61 : Int) : Option (Ag) :=
 grd ((([(⟨x61,(⟨#[]⟩ : ByteArray),0,1,y2.At⟩ : Aa)]).length + (y57.L).length) * 48 ≤ 140737488355328) <| some (⟨([(⟨x61,(⟨#[]⟩ : ByteArray),0,1,y2.At⟩ : Aa)] ++ y57.L),y57.At,0⟩ : Ag)
noncomputable def C2 (sf1 : (List Af) → Int → Int → Int → Option (Ag)) (sf2 : (List Af) → Int → Int → Option (Ag))  (p0 : (List Af)) (p1 : Int) (p2 : Int) (y2 : Af) (x18 : Bool) : Option (Ag) :=
 cond x18 (some (⟨([] : List Aa),p1,11⟩ : Ag)) (cond (p2 == 24) (some (⟨([] : List Aa),p1,5⟩ : Ag)) (cond (y2.Text.toList == (⟨#[40]⟩ : ByteArray).toList) ((sf1 p0 (w64 (p1 + 1)) 1 (w64 (p2 + 1))).bind fun y41 => cond (y41.E != 0) (some y41) ((A7 p0 y41.At).bind fun y51 => cond (y51.Kind != 4) (E1 sf1 sf2 y41 true) (E1 sf1 sf2 y41 (!(y51.Text.toList == (⟨#[41]⟩ : ByteArray).toList))))) ((sf2 p0 (w64 (p1 + 1)) (w64 (p2 + 1))).bind fun y57 => cond (y57.E != 0) (some y57) (cond (y2.Text.toList == (⟨#[33]⟩ : ByteArray).toList) (E0 sf1 sf2 y2 y57 4) (E0 sf1 sf2 y2 y57 3)))))
noncomputable def Gq (sf1 : (List Af) → Int → Int → Int → Option (Ag)) (sf2 : (List Af) → Int → Int → Option (Ag))  (p0 : (List Af)) (p1 : Int) (p2 : Int) : Option (Ag) :=
 (A7 p0 p1).bind fun y2 => cond (y2.Kind == 2) (some (⟨[(⟨1,(⟨#[]⟩ : ByteArray),y2.N,0,y2.At⟩ : Aa)],(w64 (p1 + 1)),0⟩ : Ag)) (cond (y2.Kind == 1) (some (⟨[(⟨2,y2.Text,0,0,y2.At⟩ : Aa)],(w64 (p1 + 1)),0⟩ : Ag)) (cond (y2.Kind != 4) (C2 sf1 sf2 p0 p1 p2 y2 true) (cond (!(y2.Text.toList == (⟨#[45]⟩ : ByteArray).toList)) (cond (!(y2.Text.toList == (⟨#[33]⟩ : ByteArray).toList)) (C2 sf1 sf2 p0 p1 p2 y2 (!(y2.Text.toList == (⟨#[40]⟩ : ByteArray).toList))) (C2 sf1 sf2 p0 p1 p2 y2 false)) (C2 sf1 sf2 p0 p1 p2 y2 false))))
noncomputable def Dc (sf1 : (List Af) → Int → Int → Int → Option (Ag)) (sf2 : (List Af) → Int → Int → Option (Ag))  (p0 : (List Af)) (p2 : Int) (p3 : Int) (x53 : (List Aa)) (x54 : Int) (x55 : Int) (y61 : Af) (y63 : Int) (x75 : Bool) : Option (((List Aa) × Int × Int) ⊕ (Ag)) :=
 cond x75 ((some (⟨x53,x54,x55⟩ : Ag)).map Sum.inr) ((sf1 p0 (w64 (x54 + 1)) (w64 (p2 + 1)) p3).bind fun y80 => cond (y80.E != 0) ((some y80).map Sum.inr) (grd ((([(⟨y63,(⟨#[]⟩ : ByteArray),0,2,y61.At⟩ : Aa)]).length + (x53).length) * 48 ≤ 140737488355328) <| grd (((([(⟨y63,(⟨#[]⟩ : ByteArray),0,2,y61.At⟩ : Aa)] ++ x53)).length + (y80.L).length) * 48 ≤ 140737488355328) <| cond (p2 == 3) ((some (⟨(([(⟨y63,(⟨#[]⟩ : ByteArray),0,2,y61.At⟩ : Aa)] ++ x53) ++ y80.L),y80.At,0⟩ : Ag)).map Sum.inr) (some (.inl ((([(⟨y63,(⟨#[]⟩ : ByteArray),0,2,y61.At⟩ : Aa)] ++ x53) ++ y80.L),y80.At,0)))))
noncomputable def Ft (sf1 : (List Af) → Int → Int → Int → Option (Ag)) (sf2 : (List Af) → Int → Int → Option (Ag))  (p0 : (List Af)) (p2 : Int) (p3 : Int) (x53 : (List Aa)) (x54 : Int) (x55 : Int) : Option (((List Aa) × Int × Int) ⊕ (Ag)) :=
 cond (x55 == 0) ((A7 p0 x54).bind fun y61 => (GA y61.Text).bind fun y63 => cond (y61.Kind != 4) (Dc sf1 sf2 p0 p2 p3 x53 x54 x55 y61 y63 true) (cond (y63 == 0) (Dc sf1 sf2 p0 p2 p3 x53 x54 x55 y61 y63 true) ((Gr y63).bind fun y94 => Dc sf1 sf2 p0 p2 p3 x53 x54 x55 y61 y63 (y94 != p2)))) ((some (⟨x53,x54,x55⟩ : Ag)).map Sum.inr)
noncomputable def FS (sf1 : (List Af) → Int → Int → Int → Option (Ag)) (sf2 : (List Af) → Int → Int → Option (Ag))  (p0 : (List Af)) (p1 : Int) (p2 : Int) (p3 : Int) : Option (Ag) :=
 cond (p2 == 6) ((sf2 p0 p1 p3).bind fun y6 => some y6) ((sf1 p0 p1 (w64 (p2 + 1)) p3).bind fun y8 => Loop (fun s : ((List Aa) × Int × Int) => Ft sf1 sf2 p0 p2 p3 s.1 s.2.1 s.2.2) (y8.L,y8.At,y8.E))
noncomputable def A2 : Nat → ((List Af) → Int → Int → Int → Option (Ag)) × ((List Af) → Int → Int → Option (Ag))
 | 0 => (fun _ _ _ _ => none,fun _ _ _ => none)
 | n + 1 => (FS (A2 n).1 (A2 n).2,Gq (A2 n).1 (A2 n).2)
noncomputable def IE (p0 : (List Af)) (p1 : Int) (p2 : Int) (p3 : Int) : Option (Ag) :=
 (A2 4000).1 p0 p1 p2 p3
noncomputable def Fg (p0 : (List Af)) (p1 : Int) : Option (Ag) :=
 cond (decide (p1 < 0)) (some (⟨([] : List Aa),0,1⟩ : Ag)) ((IE p0 p1 1 0).bind fun y4 => some y4)
noncomputable def AC (p0 : Ad) (p1 : (List Af)) : Option (Ad) :=
 cond (p0.e != 0) (some p0) ((Fg p1 p0.at_).bind fun y4 => (AR p0 (⟨y4.L,0,y4.At,y4.E⟩ : Ad)).bind fun y6 => some y6)
noncomputable def DV (p0 : (List Af)) (p2 : Aa) (y4 : Ad × ByteArray) (x18 : Int) (x19 : (List Aa)) (x20 : Int) (x21 : Int) (x22 : Int) : Option (Ad) :=
 (Ai (⟨x19,x20,x21,x22⟩ : Ad) p0 (⟨#[59]⟩ : ByteArray)).bind fun y25 => (Av y25 (⟨x18,y4.2,p2.N,p2.Kids,p2.At⟩ : Aa)).bind fun y26 => some y26
noncomputable def EX (p0 : (List Af)) (p2 : Aa) (y4 : Ad × ByteArray) (y6 : Ad) (x29 : Bool) : Option (Ad) :=
 cond x29 ((Ai y6 p0 (⟨#[114,97,110,100,111,109]⟩ : ByteArray)).bind fun y31 => (Ai y31 p0 (⟨#[40]⟩ : ByteArray)).bind fun y32 => (AC y32 p0).bind fun y33 => (Ai y33 p0 (⟨#[41]⟩ : ByteArray)).bind fun y34 => DV p0 p2 y4 20 y34.l y34.n y34.at_ y34.e) ((AC y6 p0).bind fun y35 => DV p0 p2 y4 19 y35.l y35.n y35.at_ y35.e)
noncomputable def G9 (p0 : (List Af)) (p1 : Int) (p2 : Aa) : Option (Ad) :=
 (Bs p1).bind fun y3 => (Bf y3 p0).bind fun y4 => (Ai y4.1 p0 (⟨#[61]⟩ : ByteArray)).bind fun y6 => cond (y6.e == 0) ((AM p0 y6.at_ (⟨#[114,97,110,100,111,109]⟩ : ByteArray)).bind fun y37 => EX p0 p2 y4 y6 y37) (EX p0 p2 y4 y6 false)
noncomputable def DW (p0 : (List Af)) (p1 : Int) (y4 : Ad × ByteArray) (x14 : (List Aa)) (x15 : Int) (x16 : Int) (x17 : Int) : Option (Ad) :=
 (A7 p0 p1).bind fun y20 => (Av (⟨x14,x15,x16,x17⟩ : Ad) (⟨33,y4.2,0,0,y20.At⟩ : Aa)).bind fun y21 => some y21
noncomputable def EY (p0 : (List Af)) (p1 : Int) (y4 : Ad × ByteArray) (x24 : Bool) : Option (Ad) :=
 cond x24 ((Ai y4.1 p0 (⟨#[91]⟩ : ByteArray)).bind fun y26 => (AC y26 p0).bind fun y27 => (Ai y27 p0 (⟨#[93]⟩ : ByteArray)).bind fun y28 => DW p0 p1 y4 y28.l y28.n y28.at_ y28.e) (DW p0 p1 y4 y4.1.l y4.1.n y4.1.at_ y4.1.e)
noncomputable def Ha (p0 : (List Af)) (p1 : Int) : Option (Ad) :=
 (Bs p1).bind fun y3 => (Bf y3 p0).bind fun y4 => cond (y4.1.e == 0) ((AM p0 y4.1.at_ (⟨#[91]⟩ : ByteArray)).bind fun y30 => EY p0 p1 y4 y30) (EY p0 p1 y4 false)
noncomputable def Dl (p1 : (List Af)) (p2 : Int) (p3 : Int) (y6 : Ad) (x19 : Bool) : Option (Ad × Int × ByteArray) :=
 cond x19 ((Ai y6 p1 (⟨#[33]⟩ : ByteArray)).bind fun y23 => (AC y23 p1).bind fun y24 => some (y24,p2,(⟨#[]⟩ : ByteArray))) ((Ai y6 p1 (⟨#[63]⟩ : ByteArray)).bind fun y27 => (Bf y27 p1).bind fun y28 => some (y28.1,p3,y28.2))
noncomputable def Ef (p0 : Ad) (p1 : (List Af)) (p2 : Int) (p3 : Int) : Option (Ad × Int × ByteArray) :=
 cond (p0.e != 0) (some (p0,0,(⟨#[]⟩ : ByteArray))) ((Ha p1 p0.at_).bind fun y5 => (AR p0 y5).bind fun y6 => cond (y6.e == 0) ((AM p1 y6.at_ (⟨#[33]⟩ : ByteArray)).bind fun y30 => Dl p1 p2 p3 y6 y30) (Dl p1 p2 p3 y6 false))
noncomputable def Ct (p1 : (List Af)) (x33 : (List Aa)) (x34 : Int) (x35 : Int) (x36 : Int) : Option (Ad) :=
 (Ai (⟨x33,x34,x35,x36⟩ : Ad) p1 (⟨#[41]⟩ : ByteArray)).bind fun y38 => some y38
noncomputable def Dn (p1 : (List Af)) (x45 : (List Aa)) (x46 : Int) (x47 : Int) (x48 : Int) (x59 : Bool) : Option (((List Aa) × Int × Int × Int) ⊕ (Ad)) :=
 cond x59 ((Ai (⟨x45,x46,x47,x48⟩ : Ad) p1 (⟨#[44]⟩ : ByteArray)).bind fun y61 => (AC y61 p1).bind fun y62 => some (.inl (y62.l,y62.n,y62.at_,y62.e))) ((Ct p1 x45 x46 x47 x48).map Sum.inr)
noncomputable def Dm (p1 : (List Af)) (x45 : (List Aa)) (x46 : Int) (x47 : Int) (x48 : Int) : Option (((List Aa) × Int × Int × Int) ⊕ (Ad)) :=
 cond (x48 == 0) ((AM p1 x47 (⟨#[44]⟩ : ByteArray)).bind fun y66 => Dn p1 x45 x46 x47 x48 y66) (Dn p1 x45 x46 x47 x48 false)
noncomputable def Do (p1 : (List Af)) (y2 : Ad) (x41 : Bool) : Option (Ad) :=
 cond x41 ((AC y2 p1).bind fun y44 => Loop (fun s : ((List Aa) × Int × Int × Int) => Dm p1 s.1 s.2.1 s.2.2.1 s.2.2.2) (y44.l,y44.n,y44.at_,y44.e)) (Ct p1 y2.l y2.n y2.at_ y2.e)
noncomputable def Fr (p0 : Ad) (p1 : (List Af)) : Option (Ad) :=
 (Ai p0 p1 (⟨#[40]⟩ : ByteArray)).bind fun y2 => cond (y2.e == 0) ((AM p1 y2.at_ (⟨#[41]⟩ : ByteArray)).bind fun y68 => Do p1 y2 (!y68)) (Do p1 y2 false)
noncomputable def C0 (sf1 : Ad → (List Af) → Int → Option (Ad))  (p0 : (List Af)) (p2 : Int) (y2 : Af) (x38 : Int) (x52 : Int) (x53 : ByteArray) (x54 : (List Aa)) (x55 : Int) (x56 : Int) (x57 : Int) : Option (Ad) :=
 (sf1 (⟨x54,x55,x56,x57⟩ : Ad) p0 (w64 (p2 + 1))).bind fun y60 => (Av y60 (⟨x52,x53,x38,0,y2.At⟩ : Aa)).bind fun y61 => some y61
noncomputable def DY (sf1 : Ad → (List Af) → Int → Option (Ad))  (p0 : (List Af)) (p2 : Int) (y2 : Af) (x38 : Int) (x39 : (List Aa)) (x40 : Int) (x41 : Int) (x42 : Int) (x64 : Bool) : Option (Ad) :=
 cond x64 ((Ai (⟨x39,x40,x41,x42⟩ : Ad) p0 (⟨#[97,102,116,101,114]⟩ : ByteArray)).bind fun y66 => (AC y66 p0).bind fun y67 => C0 sf1 p0 p2 y2 x38 36 (⟨#[]⟩ : ByteArray) y67.l y67.n y67.at_ y67.e) ((Ef (⟨x39,x40,x41,x42⟩ : Ad) p0 35 34).bind fun y68 => C0 sf1 p0 p2 y2 x38 y68.2.1 y68.2.2 y68.1.l y68.1.n y68.1.at_ y68.1.e)
noncomputable def C1 (sf1 : Ad → (List Af) → Int → Option (Ad))  (p0 : (List Af)) (p2 : Int) (y2 : Af) (x38 : Int) (x39 : (List Aa)) (x40 : Int) (x41 : Int) (x42 : Int) : Option (Ad) :=
 cond (x42 == 0) ((AM p0 x41 (⟨#[97,102,116,101,114]⟩ : ByteArray)).bind fun y70 => DY sf1 p0 p2 y2 x38 x39 x40 x41 x42 y70) (DY sf1 p0 p2 y2 x38 x39 x40 x41 x42 false)
noncomputable def DX (sf1 : Ad → (List Af) → Int → Option (Ad))  (p0 : (List Af)) (p2 : Int) (y2 : Af) (y28 : Ad) (x73 : Bool) : Option (Ad) :=
 cond x73 ((Ai y28 p0 (⟨#[119,104,101,110]⟩ : ByteArray)).bind fun y75 => (AC y75 p0).bind fun y76 => (Ai y76 p0 (⟨#[58]⟩ : ByteArray)).bind fun y77 => C1 sf1 p0 p2 y2 1 y77.l y77.n y77.at_ y77.e) (C1 sf1 p0 p2 y2 0 y28.l y28.n y28.at_ y28.e)
noncomputable def Eg (sf1 : Ad → (List Af) → Int → Option (Ad))  (p0 : (List Af)) (p1 : Int) (p2 : Int) : Option (Ad) :=
 (A7 p0 p1).bind fun y2 => (AM p0 p1 (⟨#[101,108,115,101]⟩ : ByteArray)).bind fun y15 => cond y15 ((Bs p1).bind fun y21 => (Ai y21 p0 (⟨#[101,108,115,101]⟩ : ByteArray)).bind fun y22 => (sf1 y22 p0 (w64 (p2 + 1))).bind fun y23 => (Av y23 (⟨37,(⟨#[]⟩ : ByteArray),0,0,y2.At⟩ : Aa)).bind fun y24 => some y24) ((Bs p1).bind fun y27 => (Ai y27 p0 (⟨#[99,97,115,101]⟩ : ByteArray)).bind fun y28 => cond (y28.e == 0) ((AM p0 y28.at_ (⟨#[119,104,101,110]⟩ : ByteArray)).bind fun y79 => DX sf1 p0 p2 y2 y28 y79) (DX sf1 p0 p2 y2 y28 false))
noncomputable def Dz (sf1 : Ad → (List Af) → Int → Option (Ad))  (y2 : Af) (x290 : (List Aa)) (x291 : Int) (x292 : Int) (x293 : Int) : Option (Ad) :=
 (Av (⟨x290,x291,x292,x293⟩ : Ad) (⟨23,(⟨#[]⟩ : ByteArray),0,0,y2.At⟩ : Aa)).bind fun y295 => some y295
noncomputable def EG (sf1 : Ad → (List Af) → Int → Option (Ad))  (p0 : (List Af)) (p2 : Int) (y2 : Af) (y281 : Ad) (x298 : Bool) : Option (Ad) :=
 cond x298 ((Ai y281 p0 (⟨#[101,108,115,101]⟩ : ByteArray)).bind fun y300 => (sf1 y300 p0 (w64 (p2 + 1))).bind fun y301 => Dz sf1 y2 y301.l y301.n y301.at_ y301.e) (Dz sf1 y2 y281.l y281.n y281.at_ y281.e)
noncomputable def EF (sf1 : Ad → (List Af) → Int → Option (Ad))  (p0 : (List Af)) (p2 : Int) (y2 : Af) (x338 : (List Aa)) (x339 : Int) (x340 : Int) (x341 : Int) (x352 : Bool) : Option (((List Aa) × Int × Int × Int) ⊕ (Ad)) :=
 cond x352 ((Eg sf1 p0 x340 p2).bind fun y354 => (AR (⟨x338,x339,x340,x341⟩ : Ad) y354).bind fun y355 => some (.inl (y355.l,y355.n,y355.at_,y355.e))) (((Ai (⟨x338,x339,x340,x341⟩ : Ad) p0 (⟨#[125]⟩ : ByteArray)).bind fun y360 => (Av y360 (⟨25,(⟨#[]⟩ : ByteArray),0,0,y2.At⟩ : Aa)).bind fun y361 => some y361).map Sum.inr)
noncomputable def FN (sf1 : Ad → (List Af) → Int → Option (Ad))  (p0 : (List Af)) (p2 : Int) (y2 : Af) (x338 : (List Aa)) (x339 : Int) (x340 : Int) (x341 : Int) : Option (((List Aa) × Int × Int × Int) ⊕ (Ad)) :=
 cond (x341 == 0) ((AM p0 x340 (⟨#[125]⟩ : ByteArray)).bind fun y363 => EF sf1 p0 p2 y2 x338 x339 x340 x341 (!y363)) (EF sf1 p0 p2 y2 x338 x339 x340 x341 false)
noncomputable def Dy (sf1 : Ad → (List Af) → Int → Option (Ad))  (p0 : (List Af)) (p2 : Int) (y2 : Af) (x312 : (List Aa)) (x313 : Int) (x314 : Int) (x315 : Int) : Option (Ad) :=
 Loop (fun s : ((List Aa) × Int × Int × Int) => FN sf1 p0 p2 y2 s.1 s.2.1 s.2.2.1 s.2.2.2) (x312,x313,x314,x315)
noncomputable def EH (sf1 : Ad → (List Af) → Int → Option (Ad))  (p0 : (List Af)) (p1 : Int) (p2 : Int) (y2 : Af) (y4 : Ad) (x15 : Bool) : Option (Ad) :=
 cond x15 ((G9 p0 p1 (⟨0,(⟨#[]⟩ : ByteArray),0,0,y2.At⟩ : Aa)).bind fun y18 => some y18) (cond (y2.Kind == 1) ((Ef y4 p0 21 22).bind fun y28 => (Ai y28.1 p0 (⟨#[59]⟩ : ByteArray)).bind fun y31 => (Av y31 (⟨y28.2.1,y28.2.2,0,0,y2.At⟩ : Aa)).bind fun y32 => some y32) (cond (y2.Kind != 3) (some (⟨y4.l,y4.n,y4.at_,11⟩ : Ad)) (cond (y2.Text.toList == (⟨#[118,97,114]⟩ : ByteArray).toList) ((Ai y4 p0 (⟨#[118,97,114]⟩ : ByteArray)).bind fun y204 => (Bf y204 p0).bind fun y205 => (Ai y205.1 p0 (⟨#[61]⟩ : ByteArray)).bind fun y210 => (AC y210 p0).bind fun y211 => (Ai y211 p0 (⟨#[59]⟩ : ByteArray)).bind fun y212 => (Av y212 (⟨18,y205.2,0,0,y2.At⟩ : Aa)).bind fun y213 => some y213) (cond (y2.Text.toList == (⟨#[115,116,97,114,116]⟩ : ByteArray).toList) ((Ai y4 p0 (⟨#[115,116,97,114,116]⟩ : ByteArray)).bind fun y217 => (Bf y217 p0).bind fun y218 => (Fr y218.1 p0).bind fun y222 => (Ai y222 p0 (⟨#[59]⟩ : ByteArray)).bind fun y223 => (Av y223 (⟨26,y218.2,0,0,y2.At⟩ : Aa)).bind fun y224 => some y224) (cond (y2.Text.toList == (⟨#[115,108,101,101,112]⟩ : ByteArray).toList) ((Ai y4 p0 (⟨#[115,108,101,101,112]⟩ : ByteArray)).bind fun y230 => (AC y230 p0).bind fun y231 => (Ai y231 p0 (⟨#[59]⟩ : ByteArray)).bind fun y232 => (Av y232 (⟨27,(⟨#[]⟩ : ByteArray),0,0,y2.At⟩ : Aa)).bind fun y233 => some y233) (cond (y2.Text.toList == (⟨#[112,114,105,110,116]⟩ : ByteArray).toList) ((Ai y4 p0 (⟨#[112,114,105,110,116]⟩ : ByteArray)).bind fun y239 => (AC y239 p0).bind fun y240 => (Ai y240 p0 (⟨#[59]⟩ : ByteArray)).bind fun y241 => (Av y241 (⟨28,(⟨#[]⟩ : ByteArray),0,0,y2.At⟩ : Aa)).bind fun y242 => some y242) (cond (y2.Text.toList == (⟨#[97,115,115,101,114,116]⟩ : ByteArray).toList) ((Ai y4 p0 (⟨#[97,115,115,101,114,116]⟩ : ByteArray)).bind fun y248 => (AC y248 p0).bind fun y249 => (Ai y249 p0 (⟨#[59]⟩ : ByteArray)).bind fun y250 => (Av y250 (⟨29,(⟨#[]⟩ : ByteArray),0,0,y2.At⟩ : Aa)).bind fun y251 => some y251) (cond (y2.Text.toList == (⟨#[115,107,105,112]⟩ : ByteArray).toList) ((Ai y4 p0 (⟨#[115,107,105,112]⟩ : ByteArray)).bind fun y256 => (Ai y256 p0 (⟨#[59]⟩ : ByteArray)).bind fun y257 => (Av y257 (⟨30,(⟨#[]⟩ : ByteArray),0,0,y2.At⟩ : Aa)).bind fun y258 => some y258) (cond (y2.Text.toList == (⟨#[115,116,111,112]⟩ : ByteArray).toList) ((Ai y4 p0 (⟨#[115,116,111,112]⟩ : ByteArray)).bind fun y263 => (Ai y263 p0 (⟨#[59]⟩ : ByteArray)).bind fun y264 => (Av y264 (⟨31,(⟨#[]⟩ : ByteArray),0,0,y2.At⟩ : Aa)).bind fun y265 => some y265) (cond (y2.Text.toList == (⟨#[119,104,105,108,101]⟩ : ByteArray).toList) ((Ai y4 p0 (⟨#[119,104,105,108,101]⟩ : ByteArray)).bind fun y271 => (AC y271 p0).bind fun y272 => (sf1 y272 p0 (w64 (p2 + 1))).bind fun y273 => (Av y273 (⟨24,(⟨#[]⟩ : ByteArray),0,0,y2.At⟩ : Aa)).bind fun y274 => some y274) (cond (y2.Text.toList == (⟨#[105,102]⟩ : ByteArray).toList) ((Ai y4 p0 (⟨#[105,102]⟩ : ByteArray)).bind fun y279 => (AC y279 p0).bind fun y280 => (sf1 y280 p0 (w64 (p2 + 1))).bind fun y281 => cond (y281.e == 0) ((AM p0 y281.at_ (⟨#[101,108,115,101]⟩ : ByteArray)).bind fun y303 => EG sf1 p0 p2 y2 y281 y303) (EG sf1 p0 p2 y2 y281 false)) (cond (y2.Text.toList == (⟨#[115,101,108,101,99,116]⟩ : ByteArray).toList) ((Ai y4 p0 (⟨#[115,101,108,101,99,116]⟩ : ByteArray)).bind fun y307 => (Ai y307 p0 (⟨#[123]⟩ : ByteArray)).bind fun y308 => cond (y308.e == 0) ((Eg sf1 p0 y308.at_ p2).bind fun y365 => (AR y308 y365).bind fun y366 => Dy sf1 p0 p2 y2 y366.l y366.n y366.at_ y366.e) (Dy sf1 p0 p2 y2 y308.l y308.n y308.at_ y308.e)) (some (⟨y4.l,y4.n,y4.at_,11⟩ : Ad))))))))))))))
noncomputable def F7 (sf1 : Ad → (List Af) → Int → Option (Ad))  (p0 : (List Af)) (p1 : Int) (p2 : Int) : Option (Ad) :=
 (A7 p0 p1).bind fun y2 => (Bs p1).bind fun y4 => cond (y2.Kind == 1) ((AM p0 (w64 (p1 + 1)) (⟨#[61]⟩ : ByteArray)).bind fun y368 => EH sf1 p0 p1 p2 y2 y4 y368) (EH sf1 p0 p1 p2 y2 y4 false)
noncomputable def Eh (sf1 : Ad → (List Af) → Int → Option (Ad))  (p0 : (List Af)) (p1 : Int) (p2 : Int) (x37 : (List Aa)) (x38 : Int) (x39 : Int) (x40 : Int) (x51 : Bool) : Option (((List Aa) × Int × Int × Int) ⊕ (Ad)) :=
 cond x51 ((F7 sf1 p0 x39 p2).bind fun y53 => (AR (⟨x37,x38,x39,x40⟩ : Ad) y53).bind fun y54 => some (.inl (y54.l,y54.n,y54.at_,y54.e))) (((Ai (⟨x37,x38,x39,x40⟩ : Ad) p0 (⟨#[125]⟩ : ByteArray)).bind fun y58 => (A7 p0 p1).bind fun y61 => (Av y58 (⟨32,(⟨#[]⟩ : ByteArray),0,0,y61.At⟩ : Aa)).bind fun y62 => some y62).map Sum.inr)
noncomputable def Fs (sf1 : Ad → (List Af) → Int → Option (Ad))  (p0 : (List Af)) (p1 : Int) (p2 : Int) (x37 : (List Aa)) (x38 : Int) (x39 : Int) (x40 : Int) : Option (((List Aa) × Int × Int × Int) ⊕ (Ad)) :=
 cond (x40 == 0) ((AM p0 x39 (⟨#[125]⟩ : ByteArray)).bind fun y64 => Eh sf1 p0 p1 p2 x37 x38 x39 x40 (!y64)) (Eh sf1 p0 p1 p2 x37 x38 x39 x40 false)
noncomputable def Ei (sf1 : Ad → (List Af) → Int → Option (Ad))  (p0 : (List Af)) (p1 : Int) (p2 : Int) (y2 : Ad) (x11 : Bool) : Option (Ad) :=
 cond x11 (some (⟨y2.l,y2.n,y2.at_,5⟩ : Ad)) ((Ai y2 p0 (⟨#[123]⟩ : ByteArray)).bind fun y14 => Loop (fun s : ((List Aa) × Int × Int × Int) => Fs sf1 p0 p1 p2 s.1 s.2.1 s.2.2.1 s.2.2.2) (y14.l,y14.n,y14.at_,y14.e))
noncomputable def FP (sf1 : Ad → (List Af) → Int → Option (Ad))  (p0 : (List Af)) (p1 : Int) (p2 : Int) : Option (Ad) :=
 (Bs p1).bind fun y2 => (AM p0 p1 (⟨#[123]⟩ : ByteArray)).bind fun y65 => cond y65 (Ei sf1 p0 p1 p2 y2 (decide (24 < p2))) (Ei sf1 p0 p1 p2 y2 false)
noncomputable def Fq (sf1 : Ad → (List Af) → Int → Option (Ad))  (p0 : Ad) (p1 : (List Af)) (p2 : Int) : Option (Ad) :=
 cond (p0.e != 0) (some p0) ((FP sf1 p1 p0.at_ p2).bind fun y5 => (AR p0 y5).bind fun y6 => some y6)
noncomputable def CE : Nat → Ad → (List Af) → Int → Option (Ad)
 | 0 => fun _ _ _ => none
 | n + 1 => Fq (CE n)
noncomputable def EZ (p0 : Ad) (p1 : (List Af)) (p2 : Int) : Option (Ad) :=
 (CE 4000) p0 p1 p2
noncomputable def DB (p0 : (List Af)) (y2 : Af) (y51 : Ad × ByteArray) (x63 : Int) (x64 : (List Aa)) (x65 : Int) (x66 : Int) (x67 : Int) : Option (Ad) :=
 (Ai (⟨x64,x65,x66,x67⟩ : Ad) p0 (⟨#[59]⟩ : ByteArray)).bind fun y70 => (Av y70 (⟨38,y51.2,x63,0,y2.At⟩ : Aa)).bind fun y71 => some y71
noncomputable def EK (p0 : (List Af)) (y2 : Af) (y51 : Ad × ByteArray) (x74 : Bool) : Option (Ad) :=
 cond x74 ((Ai y51.1 p0 (⟨#[91]⟩ : ByteArray)).bind fun y78 => (Fp y78 p0).bind fun y79 => (Ai y79.1 p0 (⟨#[93]⟩ : ByteArray)).bind fun y80 => DB p0 y2 y51 y79.2 y80.l y80.n y80.at_ y80.e) (DB p0 y2 y51 0 y51.1.l y51.1.n y51.1.at_ y51.1.e)
noncomputable def DA (p0 : (List Af)) (y2 : Af) (y172 : Ad × ByteArray) (x205 : (List Aa)) (x206 : Int) (x207 : Int) (x208 : Int) : Option (Ad) :=
 (Ai (⟨x205,x206,x207,x208⟩ : Ad) p0 (⟨#[41]⟩ : ByteArray)).bind fun y212 => (EZ y212 p0 1).bind fun y213 => (Av y213 (⟨40,y172.2,0,0,y2.At⟩ : Aa)).bind fun y214 => some y214
noncomputable def EI (p0 : (List Af)) (y2 : Af) (y172 : Ad × ByteArray) (x221 : (List Aa)) (x222 : Int) (x223 : Int) (x224 : Int) (x235 : Bool) : Option (((List Aa) × Int × Int × Int) ⊕ (Ad)) :=
 cond x235 ((Ai (⟨x221,x222,x223,x224⟩ : Ad) p0 (⟨#[44]⟩ : ByteArray)).bind fun y237 => (CZ y237 p0).bind fun y238 => some (.inl (y238.l,y238.n,y238.at_,y238.e))) ((DA p0 y2 y172 x221 x222 x223 x224).map Sum.inr)
noncomputable def FO (p0 : (List Af)) (y2 : Af) (y172 : Ad × ByteArray) (x221 : (List Aa)) (x222 : Int) (x223 : Int) (x224 : Int) : Option (((List Aa) × Int × Int × Int) ⊕ (Ad)) :=
 cond (x224 == 0) ((AM p0 x223 (⟨#[44]⟩ : ByteArray)).bind fun y242 => EI p0 y2 y172 x221 x222 x223 x224 y242) (EI p0 y2 y172 x221 x222 x223 x224 false)
noncomputable def EJ (p0 : (List Af)) (y2 : Af) (y172 : Ad × ByteArray) (y174 : Ad) (x217 : Bool) : Option (Ad) :=
 cond x217 ((CZ y174 p0).bind fun y220 => Loop (fun s : ((List Aa) × Int × Int × Int) => FO p0 y2 y172 s.1 s.2.1 s.2.2.1 s.2.2.2) (y220.l,y220.n,y220.at_,y220.e)) (DA p0 y2 y172 y174.l y174.n y174.at_ y174.e)
noncomputable def GN (p0 : (List Af)) (p1 : Int) : Option (Ad) :=
 (A7 p0 p1).bind fun y2 => (AM p0 p1 (⟨#[99,104,97,110]⟩ : ByteArray)).bind fun y44 => cond y44 ((Bs p1).bind fun y49 => (Ai y49 p0 (⟨#[99,104,97,110]⟩ : ByteArray)).bind fun y50 => (Bf y50 p0).bind fun y51 => cond (y51.1.e == 0) ((AM p0 y51.1.at_ (⟨#[91]⟩ : ByteArray)).bind fun y82 => EK p0 y2 y51 y82) (EK p0 y2 y51 false)) ((AM p0 p1 (⟨#[112,114,111,99]⟩ : ByteArray)).bind fun y165 => cond y165 ((Bs p1).bind fun y170 => (Ai y170 p0 (⟨#[112,114,111,99]⟩ : ByteArray)).bind fun y171 => (Bf y171 p0).bind fun y172 => (Ai y172.1 p0 (⟨#[40]⟩ : ByteArray)).bind fun y174 => cond (y174.e == 0) ((AM p0 y174.at_ (⟨#[41]⟩ : ByteArray)).bind fun y244 => EJ p0 y2 y172 y174 (!y244)) (EJ p0 y2 y172 y174 false)) ((Bs p1).bind fun y249 => (Ai y249 p0 (⟨#[109,97,105,110]⟩ : ByteArray)).bind fun y250 => (EZ y250 p0 1).bind fun y251 => (Av y251 (⟨41,(⟨#[]⟩ : ByteArray),0,0,y2.At⟩ : Aa)).bind fun y252 => some y252))
noncomputable def EL (p0 : (List Af)) (x25 : (List Aa)) (x26 : Int) (x27 : Int) (x28 : Int) (x39 : Bool) : Option (((List Aa) × Int × Int × Int) ⊕ (Ag)) :=
 cond x39 ((GN p0 x27).bind fun y41 => (AR (⟨x25,x26,x27,x28⟩ : Ad) y41).bind fun y42 => some (.inl (y42.l,y42.n,y42.at_,y42.e))) ((cond (x28 != 0) (some (⟨([] : List Aa),x27,x28⟩ : Ag)) ((Av (⟨x25,x26,x27,x28⟩ : Ad) (⟨42,(⟨#[]⟩ : ByteArray),0,0,0⟩ : Aa)).bind fun y48 => some (⟨y48.l,0,0⟩ : Ag))).map Sum.inr)
noncomputable def FQ (p0 : (List Af)) (x25 : (List Aa)) (x26 : Int) (x27 : Int) (x28 : Int) : Option (((List Aa) × Int × Int × Int) ⊕ (Ag)) :=
 cond (x28 == 0) ((A7 p0 x27).bind fun y50 => EL p0 x25 x26 x27 x28 (y50.Kind != 0)) (EL p0 x25 x26 x27 x28 false)
noncomputable def GO (p0 : (List Af)) : Option (Ag) :=
 (Bs 0).bind fun y2 => Loop (fun s : ((List Aa) × Int × Int × Int) => FQ p0 s.1 s.2.1 s.2.2.1 s.2.2.2) (y2.l,y2.n,y2.at_,y2.e)
noncomputable def FR (y6 : Ag) (x9 : Int) : Option (Ag) :=
 some (⟨y6.L,x9,y6.E⟩ : Ag)
noncomputable def FF (p0 : ByteArray) : Option (Ag) :=
 (Hb p0).bind fun y2 => cond (y2.E != 0) (some (⟨([] : List Aa),y2.At,y2.E⟩ : Ag)) ((GO y2.L).bind fun y6 => cond (y6.E != 0) ((lAt y2.L (if (w64 (((y2.L).length : Int) - 1)) < y6.At then (w64 (((y2.L).length : Int) - 1)) else y6.At)).bind fun y11 => FR y6 y11.At) (FR y6 y6.At))
noncomputable def CX (x38 : Int) (x63 : Bool) : Option ((Int) ⊕ (Bool)) :=
 cond x63 ((some false).map Sum.inr) (some (.inl (w64 (x38 + 1))))
noncomputable def DD (x79 : Bool) : Option (Bool) :=
 some x79
noncomputable def EQ (p0 : ByteArray) (x38 : Int) : Option ((Int) ⊕ (Bool)) :=
 cond (decide (x38 < (p0.size : Int))) ((sAt p0 x38).bind fun y67 => (Bv y67).bind fun y68 => cond (!y68) (cond (x38 == 0) (CX x38 true) ((sAt p0 x38).bind fun y71 => (BR y71).bind fun y72 => CX x38 (!y72))) (CX x38 false)) ((cond (decide (1 ≤ (p0.size : Int))) (cond (decide ((p0.size : Int) ≤ 16)) ((Dq).bind fun y82 => (D6 p0 y82).bind fun y83 => DD (!y83)) (DD false)) (DD false)).map Sum.inr)
noncomputable def BN (p0 : ByteArray) : Option (Bool) :=
 Loop (fun s : (Int) => EQ p0 s) 0
noncomputable def FT (x4 : Bool) : Option (Bool) :=
 some x4
noncomputable def BM (p0 : Aa) (p1 : Int) : Option (Bool) :=
 (BN p0.Name).bind fun y5 => cond y5 (cond (p0.N == 0) (FT (p0.Kids == p1)) (FT false)) (FT false)
noncomputable def FU (x3 : Bool) : Option (Bool) :=
 some x3
noncomputable def AX (p0 : Aa) (p1 : Int) : Option (Bool) :=
 cond (p0.Name.toList == (⟨#[]⟩ : ByteArray).toList) (cond (p0.N == 0) (FU (p0.Kids == p1)) (FU false)) (FU false)
noncomputable def E2 (sf1 : (List Aa) → Int → ByteArray → Option (Ae))  (p0 : (List Aa)) (p2 : ByteArray) (x20 : Int) (x21 : Int) (x22 : Bool) (x30 : Bool) : Option ((Int × Int × Bool) ⊕ (Ae)) :=
 cond x30 (grd ((0 : Int) ≤ x20 ∧ (x20 : Int) ≤ (w64 (x20 + 1)) ∧ (w64 (x20 + 1)) ≤ (p2.size : Int)) <| (sf1 p0 x21 (p2.extract (Int.toNat x20) (Int.toNat (w64 (x20 + 1))))).bind fun y35 => some (.inl ((w64 (x20 + 1)),y35.At,y35.Ok))) ((some (⟨x21,x22⟩ : Ae)).map Sum.inr)
noncomputable def D1 (sf1 : (List Aa) → Int → ByteArray → Option (Ae))  (p0 : (List Aa)) (p2 : ByteArray) (x20 : Int) (x21 : Int) (x22 : Bool) : Option ((Int × Int × Bool) ⊕ (Ae)) :=
 cond (decide (x20 < (p2.size : Int))) (E2 sf1 p0 p2 x20 x21 x22 x22) (E2 sf1 p0 p2 x20 x21 x22 false)
noncomputable def AH (sf1 : (List Aa) → Int → ByteArray → Option (Ae))  (p0 : (List Aa)) (p1 : Ae) (p2 : ByteArray) : Option (Ae) :=
 Loop (fun s : (Int × Int × Bool) => D1 sf1 p0 p2 s.1 s.2.1 s.2.2) (0,p1.At,p1.Ok)
noncomputable def B9 (sf1 : (List Aa) → Int → ByteArray → Option (Ae))  (p0 : (List Aa)) (p2 : Ae) (p3 : Ae) (x60 : Bool) : Option (Ae) :=
 cond x60 ((AH sf1 p0 p3 (⟨#[69,69]⟩ : ByteArray)).bind fun y63 => some y63) (some p2)
noncomputable def Ca (sf1 : (List Aa) → Int → ByteArray → Option (Ae))  (p0 : (List Aa)) (p1 : Aa) (p2 : Ae) (p3 : Ae) (x53 : Bool) : Option (Ae) :=
 cond x53 ((AH sf1 p0 p3 (⟨#[69]⟩ : ByteArray)).bind fun y56 => some y56) (cond (decide (5 ≤ p1.Op)) (cond (decide (p1.Op ≤ 17)) ((AX p1 2).bind fun y66 => B9 sf1 p0 p2 p3 y66) (B9 sf1 p0 p2 p3 false)) (B9 sf1 p0 p2 p3 false))
noncomputable def CT (sf1 : (List Aa) → Int → ByteArray → Option (Ae))  (p0 : (List Aa)) (p1 : Aa) (p2 : Ae) (p3 : Ae) (x47 : Bool) : Option (Ae) :=
 cond x47 (some p3) (cond (p1.Op == 3) ((AX p1 1).bind fun y68 => Ca sf1 p0 p1 p2 p3 y68) (cond (p1.Op == 4) ((AX p1 1).bind fun y70 => Ca sf1 p0 p1 p2 p3 y70) (Ca sf1 p0 p1 p2 p3 false)))
noncomputable def BC (sf1 : (List Aa) → Int → ByteArray → Option (Ae))  (p0 : (List Aa)) (p1 : Aa) (p2 : Ae) (p3 : Ae) (x43 : Bool) : Option (Ae) :=
 cond x43 (some p3) (cond (p1.Op == 2) ((BM p1 0).bind fun y72 => CT sf1 p0 p1 p2 p3 y72) (CT sf1 p0 p1 p2 p3 false))
noncomputable def DZ (sf1 : (List Aa) → Int → ByteArray → Option (Ae))  (p0 : (List Aa)) (p1 : Aa) (p2 : Ae) (p3 : Ae) : Option (Ae) :=
 cond (p1.Op == 1) (cond (p1.Name.toList == (⟨#[]⟩ : ByteArray).toList) (cond (p1.Kids == 0) (cond (decide (0 ≤ p1.N)) (BC sf1 p0 p1 p2 p3 (decide (p1.N ≤ 999999999999999999))) (BC sf1 p0 p1 p2 p3 false)) (BC sf1 p0 p1 p2 p3 false)) (BC sf1 p0 p1 p2 p3 false)) (BC sf1 p0 p1 p2 p3 false)
noncomputable def E3 (sf1 : (List Aa) → Int → ByteArray → Option (Ae))  (p0 : (List Aa)) (p2 : ByteArray) (x18 : Int) (x19 : Int) (x20 : Bool) (x28 : Bool) : Option ((Int × Int × Bool) ⊕ (Ae)) :=
 cond x28 ((sf1 p0 x19 p2).bind fun y31 => some (.inl ((w64 (x18 + 1)),y31.At,y31.Ok))) ((some (⟨x19,x20⟩ : Ae)).map Sum.inr)
noncomputable def D2 (sf1 : (List Aa) → Int → ByteArray → Option (Ae))  (p0 : (List Aa)) (p2 : ByteArray) (p3 : Int) (x18 : Int) (x19 : Int) (x20 : Bool) : Option ((Int × Int × Bool) ⊕ (Ae)) :=
 cond (decide (x18 < p3)) (E3 sf1 p0 p2 x18 x19 x20 x20) (E3 sf1 p0 p2 x18 x19 x20 false)
noncomputable def Bh (sf1 : (List Aa) → Int → ByteArray → Option (Ae))  (p0 : (List Aa)) (p1 : Ae) (p2 : ByteArray) (p3 : Int) : Option (Ae) :=
 Loop (fun s : (Int × Int × Bool) => D2 sf1 p0 p2 p3 s.1 s.2.1 s.2.2) (0,p1.At,p1.Ok)
noncomputable def A3 (sf1 : (List Aa) → Int → ByteArray → Option (Ae))  (p2 : Ae) : Option (Ae) :=
 some p2
noncomputable def CW (sf1 : (List Aa) → Int → ByteArray → Option (Ae))  (p0 : (List Aa)) (p1 : Aa) (p2 : Ae) (p3 : Ae) (x128 : Bool) : Option (Ae) :=
 cond x128 ((Bh sf1 p0 p3 (⟨#[67]⟩ : ByteArray) p1.Kids).bind fun y131 => some y131) (A3 sf1 p2)
noncomputable def CV (sf1 : (List Aa) → Int → ByteArray → Option (Ae))  (p0 : (List Aa)) (p1 : Aa) (p2 : Ae) (p3 : Ae) (x137 : Bool) : Option (Ae) :=
 cond x137 ((Bh sf1 p0 p3 (⟨#[69]⟩ : ByteArray) p1.Kids).bind fun y140 => some y140) (A3 sf1 p2)
noncomputable def CU (sf1 : (List Aa) → Int → ByteArray → Option (Ae))  (p1 : Aa) (p2 : Ae) (p3 : Ae) (x153 : Bool) : Option (Ae) :=
 cond x153 ((AX p1 0).bind fun y156 => cond y156 (some p3) (A3 sf1 p2)) (A3 sf1 p2)
noncomputable def Cb (sf1 : (List Aa) → Int → ByteArray → Option (Ae))  (p0 : (List Aa)) (p1 : Aa) (p2 : Ae) (p3 : Ae) (x145 : Bool) : Option (Ae) :=
 cond x145 ((AX p1 1).bind fun y148 => cond y148 ((AH sf1 p0 p3 (⟨#[69]⟩ : ByteArray)).bind fun y151 => some y151) (A3 sf1 p2)) (cond (p1.Op == 30) (CU sf1 p1 p2 p3 (p1.Op == 30)) (CU sf1 p1 p2 p3 (p1.Op == 31)))
noncomputable def Cc (sf1 : (List Aa) → Int → ByteArray → Option (Ae))  (p0 : (List Aa)) (p1 : Aa) (p2 : Ae) (p3 : Ae) (x84 : Bool) : Option (Ae) :=
 cond x84 ((BM p1 1).bind fun y87 => cond y87 ((AH sf1 p0 p3 (⟨#[69]⟩ : ByteArray)).bind fun y90 => some y90) (A3 sf1 p2)) (cond (p1.Op == 21) ((AX p1 2).bind fun y93 => cond y93 ((AH sf1 p0 p3 (⟨#[82,69]⟩ : ByteArray)).bind fun y96 => some y96) (A3 sf1 p2)) (cond (p1.Op == 22) ((BM p1 1).bind fun y99 => cond y99 ((AH sf1 p0 p3 (⟨#[82]⟩ : ByteArray)).bind fun y102 => some y102) (A3 sf1 p2)) (cond (p1.Op == 23) ((AX p1 2).bind fun y110 => cond y110 ((AH sf1 p0 p3 (⟨#[69,66]⟩ : ByteArray)).bind fun y113 => some y113) ((AX p1 3).bind fun y115 => cond y115 ((AH sf1 p0 p3 (⟨#[69,66,66]⟩ : ByteArray)).bind fun y118 => some y118) (A3 sf1 p2))) (cond (p1.Op == 24) ((AX p1 2).bind fun y121 => cond y121 ((AH sf1 p0 p3 (⟨#[69,66]⟩ : ByteArray)).bind fun y124 => some y124) (A3 sf1 p2)) (cond (p1.Op == 25) (cond (decide (1 ≤ p1.Kids)) ((AX p1 p1.Kids).bind fun y133 => CW sf1 p0 p1 p2 p3 y133) (CW sf1 p0 p1 p2 p3 false)) (cond (p1.Op == 26) (cond (decide (0 ≤ p1.Kids)) ((BM p1 p1.Kids).bind fun y142 => CV sf1 p0 p1 p2 p3 y142) (CV sf1 p0 p1 p2 p3 false)) (cond (p1.Op == 27) (Cb sf1 p0 p1 p2 p3 (p1.Op == 27)) (cond (p1.Op == 28) (Cb sf1 p0 p1 p2 p3 (p1.Op == 28)) (Cb sf1 p0 p1 p2 p3 (p1.Op == 29))))))))))
noncomputable def D0 (sf1 : (List Aa) → Int → ByteArray → Option (Ae))  (p0 : (List Aa)) (p1 : Aa) (p2 : Ae) (p3 : Ae) : Option (Ae) :=
 cond (p1.Op == 18) (Cc sf1 p0 p1 p2 p3 (p1.Op == 18)) (cond (p1.Op == 19) (Cc sf1 p0 p1 p2 p3 (p1.Op == 19)) (Cc sf1 p0 p1 p2 p3 (p1.Op == 20)))
noncomputable def A9 (sf1 : (List Aa) → Int → ByteArray → Option (Ae))  (p0 : (List Aa)) (p2 : Ae) (p3 : Ae) (x29 : ByteArray) (x50 : Bool) : Option (Ae) :=
 cond x50 (some p2) ((AH sf1 p0 p3 x29).bind fun y53 => some y53)
noncomputable def Cm (sf1 : (List Aa) → Int → ByteArray → Option (Ae))  (p0 : (List Aa)) (p1 : Aa) (p2 : Ae) (p3 : Ae) (x29 : ByteArray) : Option (Ae) :=
 cond (decide (p1.N < 0)) (A9 sf1 p0 p2 p3 x29 true) (cond (decide (1 < p1.N)) (A9 sf1 p0 p2 p3 x29 true) (cond (p1.Kids != (x29.size : Int)) (A9 sf1 p0 p2 p3 x29 true) ((BN p1.Name).bind fun y57 => cond (!((p1.Op == 34) == y57)) (A9 sf1 p0 p2 p3 x29 true) (cond (p1.Op != 34) (A9 sf1 p0 p2 p3 x29 (!(p1.Name.toList == (⟨#[]⟩ : ByteArray).toList))) (A9 sf1 p0 p2 p3 x29 false)))))
noncomputable def By (sf1 : (List Aa) → Int → ByteArray → Option (Ae))  (p0 : (List Aa)) (p1 : Aa) (p2 : Ae) (p3 : Ae) (x26 : ByteArray) : Option (Ae) :=
 cond (p1.N == 1) (grd ((⟨#[69]⟩ : ByteArray).size + x26.size ≤ 9223372036854775807) <| Cm sf1 p0 p1 p2 p3 ((⟨#[69]⟩ : ByteArray) ++ x26)) (Cm sf1 p0 p1 p2 p3 x26)
noncomputable def Dd (sf1 : (List Aa) → Int → ByteArray → Option (Ae))  (p0 : (List Aa)) (p1 : Aa) (p2 : Ae) (p3 : Ae) : Option (Ae) :=
 cond (p1.Op == 37) ((AX p1 1).bind fun y19 => cond y19 ((AH sf1 p0 p3 (⟨#[66]⟩ : ByteArray)).bind fun y22 => some y22) (some p2)) (cond (p1.Op == 34) (By sf1 p0 p1 p2 p3 (⟨#[82,66]⟩ : ByteArray)) (cond (p1.Op == 35) (By sf1 p0 p1 p2 p3 (⟨#[82,69,66]⟩ : ByteArray)) (cond (p1.Op == 36) (By sf1 p0 p1 p2 p3 (⟨#[69,66]⟩ : ByteArray)) (some p2))))
noncomputable def A5 (sf1 : (List Aa) → Int → ByteArray → Option (Ae))  (p1 : Int) : Option (Ae) :=
 some (⟨p1,false⟩ : Ae)
noncomputable def BY (sf1 : (List Aa) → Int → ByteArray → Option (Ae))  (p0 : (List Aa)) (p1 : Int) (y4 : Aa) (x99 : Bool) : Option (Ae) :=
 cond x99 ((Bh sf1 p0 (⟨(w64 (p1 + 1)),true⟩ : Ae) (⟨#[69]⟩ : ByteArray) y4.Kids).bind fun y102 => some y102) (A5 sf1 p1)
noncomputable def BX (sf1 : (List Aa) → Int → ByteArray → Option (Ae))  (p0 : (List Aa)) (p1 : Int) (y4 : Aa) (x111 : Bool) : Option (Ae) :=
 cond x111 ((Bh sf1 p0 (⟨(w64 (p1 + 1)),true⟩ : Ae) (⟨#[83]⟩ : ByteArray) y4.Kids).bind fun y114 => some y114) (A5 sf1 p1)
noncomputable def CG (sf1 : (List Aa) → Int → ByteArray → Option (Ae))  (p1 : Int) (x121 : Bool) : Option (Ae) :=
 cond x121 (some (⟨(w64 (p1 + 1)),true⟩ : Ae)) (A5 sf1 p1)
noncomputable def BW (sf1 : (List Aa) → Int → ByteArray → Option (Ae))  (p0 : (List Aa)) (p1 : Int) (y4 : Aa) (x129 : Bool) : Option (Ae) :=
 cond x129 ((Bh sf1 p0 (⟨(w64 (p1 + 1)),true⟩ : Ae) (⟨#[68]⟩ : ByteArray) y4.Kids).bind fun y132 => some y132) (A5 sf1 p1)
noncomputable def BH (sf1 : (List Aa) → Int → ByteArray → Option (Ae))  (p1 : Int) (x142 : Bool) : Option (Ae) :=
 cond x142 (some (⟨(w64 (p1 + 1)),true⟩ : Ae)) (A5 sf1 p1)
noncomputable def CF (sf1 : (List Aa) → Int → ByteArray → Option (Ae))  (p0 : (List Aa)) (p1 : Int) (y4 : Aa) (x157 : Bool) : Option (Ae) :=
 cond x157 ((Bh sf1 p0 (⟨(w64 (p1 + 1)),true⟩ : Ae) (⟨#[80]⟩ : ByteArray) (w64 (y4.Kids - 1))).bind fun y161 => (AH sf1 p0 y161 (⟨#[66]⟩ : ByteArray)).bind fun y162 => some y162) (A5 sf1 p1)
noncomputable def Cd (sf1 : (List Aa) → Int → ByteArray → Option (Ae))  (p0 : (List Aa)) (p1 : Int) (p2 : ByteArray) : Option (Ae) :=
 cond (decide (((p0).length : Int) ≤ p1)) (some (⟨((p0).length : Int),false⟩ : Ae)) ((lAt p0 p1).bind fun y4 => cond (p2.toList == (⟨#[69]⟩ : ByteArray).toList) ((DZ sf1 p0 y4 (⟨p1,false⟩ : Ae) (⟨(w64 (p1 + 1)),true⟩ : Ae)).bind fun y87 => some y87) (cond (p2.toList == (⟨#[83]⟩ : ByteArray).toList) ((D0 sf1 p0 y4 (⟨p1,false⟩ : Ae) (⟨(w64 (p1 + 1)),true⟩ : Ae)).bind fun y90 => some y90) (cond (p2.toList == (⟨#[67]⟩ : ByteArray).toList) ((Dd sf1 p0 y4 (⟨p1,false⟩ : Ae) (⟨(w64 (p1 + 1)),true⟩ : Ae)).bind fun y93 => some y93) (cond (p2.toList == (⟨#[82]⟩ : ByteArray).toList) (cond (y4.Op == 33) ((BM y4 0).bind fun y104 => cond y104 (BY sf1 p0 p1 y4 true) ((BM y4 1).bind fun y106 => BY sf1 p0 p1 y4 y106)) (BY sf1 p0 p1 y4 false)) (cond (p2.toList == (⟨#[66]⟩ : ByteArray).toList) (cond (y4.Op == 32) (cond (decide (0 ≤ y4.Kids)) ((AX y4 y4.Kids).bind fun y117 => BX sf1 p0 p1 y4 y117) (BX sf1 p0 p1 y4 false)) (BX sf1 p0 p1 y4 false)) (cond (p2.toList == (⟨#[80]⟩ : ByteArray).toList) (cond (y4.Op == 39) ((BM y4 0).bind fun y124 => CG sf1 p1 y124) (CG sf1 p1 false)) (cond (p2.toList == (⟨#[85]⟩ : ByteArray).toList) (cond (y4.Op == 42) (cond (decide (0 ≤ y4.Kids)) ((AX y4 y4.Kids).bind fun y135 => BW sf1 p0 p1 y4 y135) (BW sf1 p0 p1 y4 false)) (BW sf1 p0 p1 y4 false)) (cond (p2.toList == (⟨#[68]⟩ : ByteArray).toList) (cond (y4.Op == 38) ((BN y4.Name).bind fun y144 => cond y144 (cond (y4.Kids == 0) (cond (decide (0 ≤ y4.N)) (BH sf1 p1 (decide (y4.N ≤ 16))) (BH sf1 p1 false)) (BH sf1 p1 false)) (BH sf1 p1 false)) (cond (y4.Op == 41) ((AX y4 1).bind fun y150 => cond y150 ((AH sf1 p0 (⟨(w64 (p1 + 1)),true⟩ : Ae) (⟨#[66]⟩ : ByteArray)).bind fun y153 => some y153) (A5 sf1 p1)) (cond (y4.Op == 40) (cond (decide (1 ≤ y4.Kids)) ((BM y4 y4.Kids).bind fun y164 => CF sf1 p0 p1 y4 y164) (CF sf1 p0 p1 y4 false)) (A5 sf1 p1)))) (A5 sf1 p1)))))))))
noncomputable def Ax : Nat → (List Aa) → Int → ByteArray → Option (Ae)
 | 0 => fun _ _ _ => none
 | n + 1 => Cd (Ax n)
noncomputable def HD (p0 : (List Aa)) (p1 : Int) (p2 : ByteArray) : Option (Ae) :=
 (Ax 4000) p0 p1 p2
noncomputable def CH (y2 : Ae) (x10 : Bool) : Option ((List Int)) :=
 cond x10 (grd ((([0,0] : List Int)).length = 2 ∧ ((List.replicate 2 (0 : Int))).length = 2) <| grd ((([0,0] : List Int)).length = 2) <| some ([0,0] : List Int)) (grd ((([y2.At,3] : List Int)).length = 2 ∧ ((List.replicate 2 (0 : Int))).length = 2) <| grd ((([y2.At,3] : List Int)).length = 2) <| some ([y2.At,3] : List Int))
noncomputable def Eu (p0 : (List Aa)) : Option ((List Int)) :=
 (HD p0 0 (⟨#[85]⟩ : ByteArray)).bind fun y2 => cond y2.Ok (CH y2 (y2.At == ((p0).length : Int))) (CH y2 false)
noncomputable def F8 (sf1 : (List Aa) → Int → Option (Int))  (p0 : (List Aa)) (x28 : Int) (x29 : Int) (x40 : Bool) : Option ((Int × Int) ⊕ (Int)) :=
 cond x40 ((sf1 p0 x28).bind fun y43 => some (.inl (y43,(w64 (x29 + 1))))) ((some x28).map Sum.inr)
noncomputable def BZ (sf1 : (List Aa) → Int → Option (Int))  (p0 : (List Aa)) (p1 : Int) (x28 : Int) (x29 : Int) : Option ((Int × Int) ⊕ (Int)) :=
 (lAt p0 p1).bind fun y46 => cond (decide (x29 < y46.Kids)) (F8 sf1 p0 x28 x29 (decide (x28 < ((p0).length : Int)))) (F8 sf1 p0 x28 x29 false)
noncomputable def Hi (sf1 : (List Aa) → Int → Option (Int))  (p0 : (List Aa)) (p1 : Int) (x6 : Bool) : Option (Int) :=
 cond x6 (some ((p0).length : Int)) (Loop (fun s : (Int × Int) => BZ sf1 p0 p1 s.1 s.2) ((w64 (p1 + 1)),0))
noncomputable def CO (sf1 : (List Aa) → Int → Option (Int))  (p0 : (List Aa)) (p1 : Int) : Option (Int) :=
 cond (decide (p1 < 0)) (Hi sf1 p0 p1 true) (Hi sf1 p0 p1 (decide (((p0).length : Int) ≤ p1)))
noncomputable def Bi : Nat → (List Aa) → Int → Option (Int)
 | 0 => fun _ _ => none
 | n + 1 => CO (Bi n)
noncomputable def Bz (p0 : (List Aa)) (p1 : Int) : Option (Int) :=
 (Bi 4000) p0 p1
noncomputable def FV (p0 : (List Aa)) (x33 : Int) (x34 : Int) (x35 : (List Int)) (x46 : Bool) : Option ((Int × Int × (List Int)) ⊕ ((List Int))) :=
 cond x46 (grd (((x35).length + ([x33]).length) * 8 ≤ 140737488355328) <| (Bz p0 x33).bind fun y53 => some (.inl (y53,(w64 (x34 + 1)),(x35 ++ [x33])))) ((some x35).map Sum.inr)
noncomputable def Ce (p0 : (List Aa)) (p1 : Int) (x33 : Int) (x34 : Int) (x35 : (List Int)) : Option ((Int × Int × (List Int)) ⊕ ((List Int))) :=
 (lAt p0 p1).bind fun y56 => cond (decide (x34 < y56.Kids)) (FV p0 x33 x34 x35 (decide (x33 < ((p0).length : Int)))) (FV p0 x33 x34 x35 false)
noncomputable def G0 (p0 : (List Aa)) (p1 : Int) (x6 : Bool) : Option ((List Int)) :=
 cond x6 (some ([] : List Int)) (Loop (fun s : (Int × Int × (List Int)) => Ce p0 p1 s.1 s.2.1 s.2.2) ((w64 (p1 + 1)),0,([] : (List Int))))
noncomputable def AP (p0 : (List Aa)) (p1 : Int) : Option ((List Int)) :=
 cond (decide (p1 < 0)) (G0 p0 p1 true) (G0 p0 p1 (decide (((p0).length : Int) ≤ p1)))
noncomputable def FE (p0 : Aa) : Option (Int) :=
 cond (p0.Op != 38) (some 0) (some (if 1 > p0.N then 1 else p0.N))
noncomputable def Br (p0 : Aa) : Option (ByteArray) :=
 cond (p0.Op == 41) (some (⟨#[109,97,105,110]⟩ : ByteArray)) (some p0.Name)
noncomputable def CB (y2 : (List Int)) (x177 : Int) (x180 : Int) (y334 : Int) (x336 : Int) (x338 : Bool) (x340 : Bool) : Option ((Int × Int × Bool × Int) ⊕ (Ap)) :=
 cond x340 ((lAt y2 x180).bind fun y343 => (some (⟨(⟨([] : List Ak),([] : List Aq),0,([] : List Int)⟩ : Ah),y343,13⟩ : Ap)).map Sum.inr) (some (.inl ((w64 (x177 + y334)),x336,x338,(w64 (x180 + 1)))))
noncomputable def CC (y2 : (List Int)) (x177 : Int) (x180 : Int) (y334 : Int) (x336 : Int) (x338 : Bool) : Option ((Int × Int × Bool × Int) ⊕ (Ap)) :=
 cond (decide (64 < (w64 (x177 + y334)))) (CB y2 x177 x180 y334 x336 x338 true) (CB y2 x177 x180 y334 x336 x338 (decide (32 < x336)))
noncomputable def CD (y2 : (List Int)) (x177 : Int) (x179 : Bool) (x180 : Int) (y268 : Aa) (y334 : Int) (x336 : Int) : Option ((Int × Int × Bool × Int) ⊕ (Ap)) :=
 cond x179 (CC y2 x177 x180 y334 x336 true) (CC y2 x177 x180 y334 x336 (y268.Op == 41))
noncomputable def Fo (p0 : (List Aa)) (y2 : (List Int)) (x177 : Int) (x178 : Int) (x179 : Bool) (x180 : Int) (y268 : Aa) (x300 : Int) : Option ((Int) ⊕ ((Int × Int × Bool × Int) ⊕ (Ap))) :=
 cond (decide (x300 < x180)) ((lAt y2 x300).bind fun y320 => (lAt p0 y320).bind fun y321 => (Br y321).bind fun y322 => (Br y268).bind fun y323 => cond (y322.toList == y323.toList) ((lAt y2 x180).bind fun y326 => ((some (⟨(⟨([] : List Ak),([] : List Aq),0,([] : List Int)⟩ : Ah),y326,8⟩ : Ap)).map Sum.inr).map Sum.inr) (some (.inl (w64 (x300 + 1))))) (((FE y268).bind fun y334 => cond (y268.Op != 38) (CD y2 x177 x179 x180 y268 y334 (w64 (x178 + 1))) (CD y2 x177 x179 x180 y268 y334 x178)).map Sum.inr)
noncomputable def Db (p0 : (List Aa)) (y2 : (List Int)) (x177 : Int) (x178 : Int) (x179 : Bool) (x180 : Int) : Option ((Int × Int × Bool × Int) ⊕ (Ap)) :=
 cond (decide (x180 < ((y2).length : Int))) ((lAt y2 x180).bind fun y267 => (lAt p0 y267).bind fun y268 => Loop (fun s : (Int) => Fo p0 y2 x177 x178 x179 x180 y268 s) 0) ((cond (!x179) (some (⟨(⟨([] : List Ak),([] : List Aq),0,([] : List Int)⟩ : Ah),((p0).length : Int),7⟩ : Ap)) (some (⟨(⟨([] : List Ak),([] : List Aq),0,([] : List Int)⟩ : Ah),0,0⟩ : Ap))).map Sum.inr)
noncomputable def Et (p0 : (List Aa)) : Option (Ap) :=
 (AP p0 0).bind fun y2 => Loop (fun s : (Int × Int × Bool × Int) => Db p0 y2 s.1 s.2.1 s.2.2.1 s.2.2.2) (0,0,false,0)
noncomputable def B1 (y2 : (List Int)) (x48 : Int) (x78 : Bool) : Option ((Int) ⊕ (Int)) :=
 cond x78 ((lAt y2 x48).bind fun y81 => (some y81).map Sum.inr) (some (.inl (w64 (x48 + 1))))
noncomputable def Gd (p0 : (List Aa)) (p1 : Int) (y2 : (List Int)) (x48 : Int) : Option ((Int) ⊕ (Int)) :=
 cond (decide (x48 < ((y2).length : Int))) ((lAt y2 x48).bind fun y84 => (lAt p0 y84).bind fun y85 => cond (y85.Op != 38) ((lAt y2 x48).bind fun y87 => cond (decide (y87 ≤ p1)) ((lAt y2 x48).bind fun y89 => (Bz p0 y89).bind fun y90 => B1 y2 x48 (decide (p1 < y90))) (B1 y2 x48 false)) (B1 y2 x48 false)) ((some (-1)).map Sum.inr)
noncomputable def B8 (p0 : (List Aa)) (p1 : Int) : Option (Int) :=
 (AP p0 0).bind fun y2 => Loop (fun s : (Int) => Gd p0 p1 y2 s) 0
noncomputable def Ez (x2 : Bool) : Option (Bool) :=
 some x2
noncomputable def BG (p0 : Aa) : Option (Bool) :=
 cond (p0.Op == 39) (Ez true) (Ez (p0.Op == 18))
noncomputable def HC (p1 : Int) (x50 : Int) (y78 : (List Int)) (x79 : Int) : Option ((Int) ⊕ ((Int) ⊕ (Int))) :=
 cond (decide (x79 < ((y78).length : Int))) ((lAt y78 x79).bind fun y88 => cond (y88 == p1) (((some x50).map Sum.inr).map Sum.inr) (some (.inl (w64 (x79 + 1))))) ((some (.inl (w64 (x50 + 1)))).map Sum.inr)
noncomputable def Fh (p0 : (List Aa)) (p1 : Int) (x50 : Int) (x58 : Bool) : Option ((Int) ⊕ (Int)) :=
 cond x58 ((AP p0 x50).bind fun y78 => Loop (fun s : (Int) => HC p1 x50 y78 s) 0) ((some (-1)).map Sum.inr)
noncomputable def HB (p0 : (List Aa)) (p1 : Int) (x50 : Int) : Option ((Int) ⊕ (Int)) :=
 cond (decide (x50 < p1)) (Fh p0 p1 x50 (decide (x50 < ((p0).length : Int)))) (Fh p0 p1 x50 false)
noncomputable def GB (p0 : (List Aa)) (p1 : Int) : Option (Int) :=
 Loop (fun s : (Int) => HB p0 p1 s) 0
noncomputable def GK (x11 : Bool) : Option (Bool) :=
 some x11
noncomputable def Gl (p0 : (List Aa)) (p1 : Int) (p2 : Int) : Option (Bool) :=
 (lAt p0 p1).bind fun y5 => cond (y5.Op == 39) (some (decide (p1 < p2))) ((Bz p0 p1).bind fun y12 => cond (decide (y12 ≤ p2)) ((GB p0 p1).bind fun y14 => (Bz p0 y14).bind fun y15 => GK (decide (p2 < y15))) (GK false))
noncomputable def Gy (x21 : Int) (x31 : Int) : Option ((Int × Int) ⊕ (Int)) :=
 some (.inl (x31,(w64 (x21 + 1))))
noncomputable def Bx (p0 : (List Aa)) (p2 : Int) (x20 : Int) (x21 : Int) : Option ((Int × Int) ⊕ (Int)) :=
 cond (decide (x21 < p2)) ((lAt p0 x21).bind fun y34 => (BG y34).bind fun y35 => cond y35 (Gy x21 (w64 (x20 + 1))) (Gy x21 x20)) ((some x20).map Sum.inr)
noncomputable def Cp (p0 : (List Aa)) (p1 : Int) (p2 : Int) : Option (Int) :=
 Loop (fun s : (Int × Int) => Bx p0 p2 s.1 s.2) (0,p1)
noncomputable def Dx (p0 : (List Aa)) (y2 : Int) (x44 : Int) (x71 : Bool) : Option ((Int) ⊕ (Int)) :=
 cond x71 ((Cp p0 y2 x44).bind fun y74 => (some y74).map Sum.inr) (some (.inl (w64 (x44 + 1))))
noncomputable def GZ (p0 : (List Aa)) (p1 : Int) (p2 : ByteArray) (y2 : Int) (x44 : Int) : Option ((Int) ⊕ (Int)) :=
 cond (decide (x44 < p1)) ((lAt p0 x44).bind fun y77 => (BG y77).bind fun y78 => cond y78 ((lAt p0 x44).bind fun y80 => cond (y80.Name.toList == p2.toList) ((Gl p0 x44 p1).bind fun y82 => Dx p0 y2 x44 y82) (Dx p0 y2 x44 false)) (Dx p0 y2 x44 false)) ((some (-1)).map Sum.inr)
noncomputable def DN (p0 : (List Aa)) (p1 : Int) (p2 : ByteArray) : Option (Int) :=
 (B8 p0 p1).bind fun y2 => Loop (fun s : (Int) => GZ p0 p1 p2 y2 s) y2
noncomputable def Gz (p0 : (List Aa)) (p1 : ByteArray) (y2 : (List Int)) (x30 : Int) : Option ((Int) ⊕ (Int)) :=
 cond (decide (x30 < ((y2).length : Int))) ((lAt y2 x30).bind fun y47 => (lAt p0 y47).bind fun y48 => (Br y48).bind fun y49 => cond (y49.toList == p1.toList) ((lAt y2 x30).bind fun y52 => (some y52).map Sum.inr) (some (.inl (w64 (x30 + 1))))) ((some (-1)).map Sum.inr)
noncomputable def DU (p0 : (List Aa)) (p1 : ByteArray) : Option (Int) :=
 (AP p0 0).bind fun y2 => Loop (fun s : (Int) => Gz p0 p1 y2 s) 0
noncomputable def Ee  : Option (Int) :=
 some 0
noncomputable def Ec (p0 : (List Aa)) (y2 : Aa) (x66 : Bool) : Option (Int) :=
 cond x66 ((DU p0 y2.Name).bind fun y69 => cond (decide (y69 < 0)) (some 7) ((lAt p0 y69).bind fun y73 => cond (!((y73.Op == 38) == (y2.Op == 33))) (some 12) (Ee))) (Ee)
noncomputable def BU (p0 : (List Aa)) (p1 : Int) (y2 : Aa) (x60 : Bool) : Option (Int) :=
 cond x60 ((DN p0 p1 y2.Name).bind fun y63 => cond (decide (y63 < 0)) (some 7) (Ee)) (cond (y2.Op == 33) (Ec p0 y2 (y2.Op == 33)) (Ec p0 y2 (y2.Op == 26)))
noncomputable def Cz (p0 : (List Aa)) (p1 : Int) (y2 : Aa) (x43 : Bool) : Option (Int) :=
 cond x43 ((DN p0 p1 y2.Name).bind fun y49 => cond (decide (0 ≤ y49)) (some 8) ((B8 p0 p1).bind fun y53 => (Cp p0 y53 p1).bind fun y54 => cond (decide (16 ≤ y54)) (some 13) (Ee))) (cond (y2.Op == 2) (BU p0 p1 y2 (y2.Op == 2)) (cond (y2.Op == 19) (BU p0 p1 y2 (y2.Op == 19)) (cond (y2.Op == 20) (BU p0 p1 y2 (y2.Op == 20)) (cond (y2.Op == 22) (BU p0 p1 y2 (y2.Op == 22)) (BU p0 p1 y2 (y2.Op == 34))))))
noncomputable def Gk (p0 : (List Aa)) (p1 : Int) : Option (Int) :=
 (lAt p0 p1).bind fun y2 => cond (y2.Op == 39) (Cz p0 p1 y2 (y2.Op == 39)) (Cz p0 p1 y2 (y2.Op == 18))
noncomputable def GM (x37 : Int) (x57 : Int) : Option ((Int × Int) ⊕ (Int)) :=
 some (.inl (x57,(w64 (x37 + 1))))
noncomputable def Da (p0 : (List Aa)) (p1 : Int) (y2 : (List Int)) (x36 : Int) (x37 : Int) (x48 : Bool) : Option ((Int × Int) ⊕ (Int)) :=
 cond x48 ((lAt y2 x37).bind fun y61 => (lAt p0 y61).bind fun y62 => (lAt p0 p1).bind fun y63 => cond ((y62.Op == 38) == (y63.Op == 38)) (GM x37 (w64 (x36 + 1))) (GM x37 x36)) ((some x36).map Sum.inr)
noncomputable def CA (p0 : (List Aa)) (p1 : Int) (y2 : (List Int)) (x36 : Int) (x37 : Int) : Option ((Int × Int) ⊕ (Int)) :=
 cond (decide (x37 < ((y2).length : Int))) ((lAt y2 x37).bind fun y68 => Da p0 p1 y2 x36 x37 (decide (y68 < p1))) (Da p0 p1 y2 x36 x37 false)
noncomputable def Dp (p0 : (List Aa)) (p1 : Int) : Option (Int) :=
 (AP p0 0).bind fun y2 => Loop (fun s : (Int × Int) => CA p0 p1 y2 s.1 s.2) (0,0)
noncomputable def BV (p0 : (List Aa)) (p1 : Int) (y2 : Aa) (x63 : Bool) : Option (Int) :=
 cond x63 ((DN p0 p1 y2.Name).bind fun y66 => some y66) (some (-1))
noncomputable def DS (p0 : (List Aa)) (p1 : Int) (y2 : Aa) (x53 : Bool) : Option (Int) :=
 cond x53 ((B8 p0 p1).bind fun y57 => (Cp p0 y57 p1).bind fun y58 => some y58) (cond (y2.Op == 2) (BV p0 p1 y2 (y2.Op == 2)) (cond (y2.Op == 19) (BV p0 p1 y2 (y2.Op == 19)) (cond (y2.Op == 20) (BV p0 p1 y2 (y2.Op == 20)) (cond (y2.Op == 22) (BV p0 p1 y2 (y2.Op == 22)) (BV p0 p1 y2 (y2.Op == 34))))))
noncomputable def DT (p0 : (List Aa)) (p1 : Int) (y2 : Aa) (x46 : Bool) : Option (Int) :=
 cond x46 ((DU p0 y2.Name).bind fun y50 => (Dp p0 y50).bind fun y51 => some y51) (cond (y2.Op == 39) (DS p0 p1 y2 (y2.Op == 39)) (DS p0 p1 y2 (y2.Op == 18)))
noncomputable def AK (p0 : (List Aa)) (p1 : Int) (y2 : Aa) (x41 : Bool) : Option (Int) :=
 cond x41 ((Dp p0 p1).bind fun y44 => some y44) (cond (y2.Op == 33) (DT p0 p1 y2 (y2.Op == 33)) (DT p0 p1 y2 (y2.Op == 26)))
noncomputable def Bo (p0 : (List Aa)) (p1 : Int) : Option (Int) :=
 (lAt p0 p1).bind fun y2 => cond (y2.Op == 38) (AK p0 p1 y2 (y2.Op == 38)) (cond (y2.Op == 40) (AK p0 p1 y2 (y2.Op == 40)) (AK p0 p1 y2 (y2.Op == 41)))
noncomputable def Dw (x291 : Int) (x435 : Int) (x436 : Int) (x437 : (List Ak)) (x438 : (List Aq)) : Option ((Int × Int × Int × (List Ak) × (List Aq)) ⊕ (Ah)) :=
 some (.inl (x435,(w64 (x291 + 1)),x436,x437,x438))
noncomputable def Dv (x518 : Int) (x551 : Int) (x552 : (List ByteArray)) : Option ((Int × Int × (List ByteArray)) ⊕ ((Int × Int × Int × (List Ak) × (List Aq)) ⊕ (Ah))) :=
 some (.inl ((w64 (x518 + 1)),x551,x552))
noncomputable def ED (p0 : (List Aa)) (x518 : Int) (x519 : Int) (x560 : (List ByteArray)) : Option ((Int × Int × (List ByteArray)) ⊕ ((Int × Int × Int × (List Ak) × (List Aq)) ⊕ (Ah))) :=
 (lAt p0 x518).bind fun y562 => cond (y562.Op == 39) (Dv x518 (w64 (x519 + 1)) x560) (Dv x518 x519 x560)
noncomputable def EC (p0 : (List Aa)) (y2 : (List Int)) (x290 : Int) (x291 : Int) (x293 : (List Ak)) (x294 : (List Aq)) (x454 : Int) (y457 : ByteArray) (y458 : Int) (x518 : Int) (x519 : Int) (x520 : (List ByteArray)) : Option ((Int × Int × (List ByteArray)) ⊕ ((Int × Int × Int × (List Ak) × (List Aq)) ⊕ (Ah))) :=
 (lAt y2 x291).bind fun y530 => (Bz p0 y530).bind fun y531 => cond (decide (x518 < y531)) ((lAt p0 x518).bind fun y566 => (BG y566).bind fun y567 => cond y567 ((lAt p0 x518).bind fun y569 => grd (((x520).length + ([y569.Name]).length) * 16 ≤ 140737488355328) <| ED p0 x518 x519 (x520 ++ [y569.Name])) (ED p0 x518 x519 x520)) ((grd (((x294).length + ([(⟨y457,y458,x519,x520⟩ : Aq)]).length) * 56 ≤ 140737488355328) <| Dw x291 x290 x454 x293 (x294 ++ [(⟨y457,y458,x519,x520⟩ : Aq)])).map Sum.inr)
noncomputable def EE (p0 : (List Aa)) (y2 : (List Int)) (x290 : Int) (x291 : Int) (x293 : (List Ak)) (x294 : (List Aq)) (y442 : Aa) (x454 : Int) : Option ((Int × Int × Int × (List Ak) × (List Aq)) ⊕ (Ah)) :=
 (Br y442).bind fun y457 => (lAt y2 x291).bind fun y458 => (lAt y2 x291).bind fun y517 => Loop (fun s : (Int × Int × (List ByteArray)) => EC p0 y2 x290 x291 x293 x294 x454 y457 y458 s.1 s.2.1 s.2.2) (y517,0,([] : (List ByteArray)))
noncomputable def EB (p0 : (List Aa)) (x292 : Int) (x293 : (List Ak)) (x294 : (List Aq)) (x589 : Int) (x590 : (List Int)) : Option ((Int × (List Int)) ⊕ (Ah)) :=
 cond (decide (x589 < ((p0).length : Int))) ((Bo p0 x589).bind fun y597 => grd (((x590).length + ([y597]).length) * 8 ≤ 140737488355328) <| some (.inl ((w64 (x589 + 1)),(x590 ++ [y597])))) ((some (⟨x293,x294,x292,x590⟩ : Ah)).map Sum.inr)
noncomputable def FM (p0 : (List Aa)) (y2 : (List Int)) (x290 : Int) (x291 : Int) (x292 : Int) (x293 : (List Ak)) (x294 : (List Aq)) : Option ((Int × Int × Int × (List Ak) × (List Aq)) ⊕ (Ah)) :=
 cond (decide (x291 < ((y2).length : Int))) ((lAt y2 x291).bind fun y441 => (lAt p0 y441).bind fun y442 => cond (y442.Op == 38) (grd (((x293).length + ([(⟨y442.Name,x290,y442.N⟩ : Ak)]).length) * 32 ≤ 140737488355328) <| (FE y442).bind fun y452 => Dw x291 (w64 (x290 + y452)) x292 (x293 ++ [(⟨y442.Name,x290,y442.N⟩ : Ak)]) x294) (cond (y442.Op == 41) (EE p0 y2 x290 x291 x293 x294 y442 ((x294).length : Int)) (EE p0 y2 x290 x291 x293 x294 y442 x292))) ((Loop (fun s : (Int × (List Int)) => EB p0 x292 x293 x294 s.1 s.2) (0,([] : (List Int)))).map Sum.inr)
noncomputable def GL (p0 : (List Aa)) : Option (Ah) :=
 (AP p0 0).bind fun y2 => Loop (fun s : (Int × Int × Int × (List Ak) × (List Aq)) => FM p0 y2 s.1 s.2.1 s.2.2.1 s.2.2.2.1 s.2.2.2.2) (0,0,0,([] : (List Ak)),([] : (List Aq)))
noncomputable def Ff (x50 : Int) : Option ((Int) ⊕ (Ap)) :=
 some (.inl (w64 (x50 + 1)))
noncomputable def Gm (p0 : (List Aa)) (x50 : Int) : Option ((Int) ⊕ (Ap)) :=
 cond (decide (x50 < ((p0).length : Int))) ((B8 p0 x50).bind fun y62 => cond (decide (0 ≤ y62)) ((Gk p0 x50).bind fun y65 => cond (y65 != 0) ((some (⟨(⟨([] : List Ak),([] : List Aq),0,([] : List Int)⟩ : Ah),x50,y65⟩ : Ap)).map Sum.inr) (Ff x50)) (Ff x50)) (((GL p0).bind fun y72 => some (⟨y72,0,0⟩ : Ap)).map Sum.inr)
noncomputable def Fy (p0 : (List Aa)) : Option (Ap) :=
 (Eu p0).bind fun y14 => grd ((y14).length = 2 ∧ ((List.replicate 2 (0 : Int))).length = 2) <| (aAt 2 y14 1).bind fun y17 => cond (y17 != 0) ((aAt 2 y14 0).bind fun y21 => (aAt 2 y14 1).bind fun y22 => some (⟨(⟨([] : List Ak),([] : List Aq),0,([] : List Int)⟩ : Ah),y21,y22⟩ : Ap)) ((Et p0).bind fun y27 => cond (y27.E != 0) (some y27) (Loop (fun s : (Int) => Gm p0 s) 0))
noncomputable def Cy  : Option (Int) :=
 some 0
noncomputable def C9 (x103 : Bool) : Option (Int) :=
 cond x103 (some 6) (Cy)
noncomputable def Bu (p0 : (List Aa)) (p2 : Int) (y82 : Ak) (x97 : Bool) : Option (Int) :=
 cond x97 (some 14) (cond (decide (0 < y82.Size)) ((lAt p0 (w64 (p2 + 1))).bind fun y106 => cond (y106.Op == 1) ((lAt p0 (w64 (p2 + 1))).bind fun y108 => C9 (decide (y82.Size ≤ y108.N))) (C9 false)) (C9 false))
noncomputable def C8 (p0 : (List Aa)) (y123 : (List Int)) (x124 : Int) (x135 : Bool) : Option ((Int) ⊕ (Int)) :=
 cond x135 ((lAt y123 x124).bind fun y144 => (lAt p0 y144).bind fun y145 => cond (y145.Op == 37) ((some 8).map Sum.inr) (some (.inl (w64 (x124 + 1))))) ((Cy).map Sum.inr)
noncomputable def GI (p0 : (List Aa)) (p2 : Int) (y123 : (List Int)) (x124 : Int) : Option ((Int) ⊕ (Int)) :=
 cond (decide (x124 < ((y123).length : Int))) ((lAt y123 x124).bind fun y152 => C8 p0 y123 x124 (decide (y152 < p2))) (C8 p0 y123 x124 false)
noncomputable def Gi (p0 : (List Aa)) (p1 : Ah) (p2 : Int) : Option (Int) :=
 (lAt p0 p2).bind fun y2 => cond (y2.Op == 33) ((lAt p1.Nums p2).bind fun y81 => (lAt p1.Chans y81).bind fun y82 => cond (y82.Size == 0) (cond (decide (0 < y2.Kids)) (Bu p0 p2 y82 true) (cond (decide (0 < y82.Size)) (Bu p0 p2 y82 (y2.Kids == 0)) (Bu p0 p2 y82 false))) (cond (decide (0 < y82.Size)) (Bu p0 p2 y82 (y2.Kids == 0)) (Bu p0 p2 y82 false))) (cond (y2.Op == 26) ((lAt p1.Nums p2).bind fun y116 => (lAt p1.Routines y116).bind fun y117 => cond (y2.Kids != y117.Params) (some 14) (Cy)) (cond (y2.Op == 37) ((GB p0 p2).bind fun y122 => (AP p0 y122).bind fun y123 => Loop (fun s : (Int) => GI p0 p2 y123 s) 0) (Cy)))
noncomputable def Gj (p0 : (List Aa)) (y2 : Ap) (x20 : Int) : Option ((Int) ⊕ (Ap)) :=
 cond (decide (x20 < ((p0).length : Int))) ((Gi p0 y2.P x20).bind fun y29 => cond (y29 != 0) ((some (⟨(⟨([] : List Ak),([] : List Aq),0,([] : List Int)⟩ : Ah),x20,y29⟩ : Ap)).map Sum.inr) (some (.inl (w64 (x20 + 1))))) ((some y2).map Sum.inr)
noncomputable def ET (p0 : (List Aa)) : Option (Ap) :=
 (Fy p0).bind fun y2 => cond (y2.E != 0) (some y2) (Loop (fun s : (Int) => Gj p0 y2 s) 0)
noncomputable def GJ (p0 : ByteArray) : Option (Bc) :=
 (FF p0).bind fun y2 => cond (y2.E != 0) (some (⟨([] : List Aa),(⟨([] : List Ak),([] : List Aq),0,([] : List Int)⟩ : Ah),y2.At,y2.E⟩ : Bc)) ((ET y2.L).bind fun y6 => cond (y6.E == 0) (some (⟨y2.L,y6.P,0,0⟩ : Bc)) (cond (decide (((y2.L).length : Int) ≤ y6.At)) (some (⟨([] : List Aa),(⟨([] : List Ak),([] : List Aq),0,([] : List Int)⟩ : Ah),(p0.size : Int),y6.E⟩ : Bc)) ((lAt y2.L y6.At).bind fun y12 => some (⟨([] : List Aa),(⟨([] : List Ak),([] : List Aq),0,([] : List Int)⟩ : Ah),y12.At,y6.E⟩ : Bc))))
noncomputable def E4 (p2 : Int) (y2 : (List Int)) (x8 : Bool) : Option (Int) :=
 cond x8 (some (-1)) ((lAt y2 p2).bind fun y11 => some y11)
noncomputable def AD (p0 : (List Aa)) (p1 : Int) (p2 : Int) : Option (Int) :=
 (AP p0 p1).bind fun y2 => cond (decide (p2 < 0)) (E4 p2 y2 true) (E4 p2 y2 (decide (((y2).length : Int) ≤ p2)))
noncomputable def Fe (x2 : Bool) : Option (Bool) :=
 some x2
noncomputable def DR (p0 : Aa) : Option (Bool) :=
 cond (decide (18 ≤ p0.Op)) (Fe (decide (p0.Op ≤ 31))) (Fe false)
noncomputable def FL (x37 : Int) (x47 : Int) : Option ((Int × Int) ⊕ (Int)) :=
 some (.inl (x47,(w64 (x37 + 1))))
noncomputable def CR (p0 : (List Aa)) (p1 : Int) (x36 : Int) (x37 : Int) : Option ((Int × Int) ⊕ (Int)) :=
 cond (decide (x37 < p1)) ((lAt p0 x37).bind fun y50 => (DR y50).bind fun y51 => cond y51 (FL x37 (w64 (x36 + 1))) (FL x37 x36)) ((some x36).map Sum.inr)
noncomputable def EA (p0 : (List Aa)) (p1 : Int) (x15 : Bool) : Option (Int) :=
 cond x15 (some (-1)) (Loop (fun s : (Int × Int) => CR p0 p1 s.1 s.2) (0,0))
noncomputable def DM (p0 : (List Aa)) (p1 : Int) : Option (Int) :=
 cond (decide (p1 < 0)) (EA p0 p1 true) (cond (decide (((p0).length : Int) ≤ p1)) (EA p0 p1 true) ((lAt p0 p1).bind fun y57 => (DR y57).bind fun y58 => EA p0 p1 (!y58)))
noncomputable def AB (p0 : Int) (p1 : Int) (p2 : Int) : Option ((List Ac)) :=
 some ([(⟨p0,p1,p2⟩ : Ac)])
noncomputable def Co (p0 : Int) (p1 : Int) (p2 : Int) : Option ((List Ac)) :=
 some ([(⟨p0,p1,p2⟩ : Ac)])
noncomputable def BT (x20 : Bool) : Option (Int) :=
 cond x20 (some 1) (some 0)
noncomputable def Es (p0 : Int) : Option (Int) :=
 cond (p0 == 19) (some 2) (cond (p0 == 6) (BT true) (cond (p0 == 7) (BT true) (cond (p0 == 8) (BT true) (cond (p0 == 20) (BT true) (cond (p0 == 21) (BT true) (BT (p0 == 22)))))))
noncomputable def Bt (x35 : Int) (x36 : (List Ac)) (y55 : Ac) (x60 : Int) (x61 : Int) : Option ((Int × (List Ac)) ⊕ ((List Ac))) :=
 grd (((x36).length + ([(⟨y55.Op,x60,x61⟩ : Ac)]).length) * 24 ≤ 140737488355328) <| some (.inl ((w64 (x35 + 1)),(x36 ++ [(⟨y55.Op,x60,x61⟩ : Ac)])))
noncomputable def Cx (p0 : (List Ac)) (p1 : Int) (x35 : Int) (x36 : (List Ac)) : Option ((Int × (List Ac)) ⊕ ((List Ac))) :=
 cond (decide (x35 < ((p0).length : Int))) ((lAt p0 x35).bind fun y55 => (Es y55.Op).bind fun y64 => cond (y64 == 1) (Bt x35 x36 y55 (w64 (y55.A + p1)) y55.B) (cond (y64 == 2) (Bt x35 x36 y55 y55.A (w64 (y55.B + p1))) (Bt x35 x36 y55 y55.A y55.B))) ((some x36).map Sum.inr)
noncomputable def Ch (p0 : (List Ac)) (p1 : Int) : Option ((List Ac)) :=
 Loop (fun s : (Int × (List Ac)) => Cx p0 p1 s.1 s.2) (0,([] : (List Ac)))
noncomputable def Ar (p0 : (List Ac)) (o0 : (List Ac)) : Option ((List Ac)) :=
 grd (((([] : List Ac)).length + (p0).length) * 24 ≤ 140737488355328) <| (Ch o0 ((p0).length : Int)).bind fun y5 => grd ((((([] : List Ac) ++ p0)).length + (y5).length) * 24 ≤ 140737488355328) <| some ((([] : List Ac) ++ p0) ++ y5)
noncomputable def A1 (p0 : (List Ac)) (p1 : (List Ac)) : Option ((List Ac)) :=
 grd (((([] : List Ac)).length + (p0).length) * 24 ≤ 140737488355328) <| (Ch p1 ((p0).length : Int)).bind fun y5 => grd ((((([] : List Ac) ++ p0)).length + (y5).length) * 24 ≤ 140737488355328) <| some ((([] : List Ac) ++ p0) ++ y5)
noncomputable def AF (o0 : (List Ac)) (o1 : (List Ac)) : Option ((List Ac)) :=
 grd (((([] : List Ac)).length + (o0).length) * 24 ≤ 140737488355328) <| (Ch o1 ((o0).length : Int)).bind fun y5 => grd ((((([] : List Ac) ++ o0)).length + (y5).length) * 24 ≤ 140737488355328) <| some ((([] : List Ac) ++ o0) ++ y5)
noncomputable def Du (sf1 : (List Aa) → Ah → Int → Option ((List Ac)))  (y41 : (List Ac)) (y43 : (List Ac)) (x64 : Int) (x65 : Int) : Option ((List Ac)) :=
 (A1 y41 ([] : List Ac)).bind fun y68 => grd (((y68).length + ([(⟨x64,(w64 ((w64 (((y41).length : Int) + ((y43).length : Int))) + 4)),0⟩ : Ac)]).length) * 24 ≤ 140737488355328) <| (A1 (y68 ++ [(⟨x64,(w64 ((w64 (((y41).length : Int) + ((y43).length : Int))) + 4)),0⟩ : Ac)]) y43).bind fun y72 => grd (((y72).length + ([(⟨x64,(w64 ((w64 (((y41).length : Int) + ((y43).length : Int))) + 4)),0⟩ : Ac)]).length) * 24 ≤ 140737488355328) <| grd ((((y72 ++ [(⟨x64,(w64 ((w64 (((y41).length : Int) + ((y43).length : Int))) + 4)),0⟩ : Ac)])).length + ([(⟨2,(w64 (1 - x65)),0⟩ : Ac),(⟨6,(w64 ((w64 ((w64 (((y41).length : Int) + ((y43).length : Int))) + 4)) + 1)),0⟩ : Ac),(⟨2,x65,0⟩ : Ac)]).length) * 24 ≤ 140737488355328) <| some ((y72 ++ [(⟨x64,(w64 ((w64 (((y41).length : Int) + ((y43).length : Int))) + 4)),0⟩ : Ac)]) ++ [(⟨2,(w64 (1 - x65)),0⟩ : Ac),(⟨6,(w64 ((w64 ((w64 (((y41).length : Int) + ((y43).length : Int))) + 4)) + 1)),0⟩ : Ac),(⟨2,x65,0⟩ : Ac)])
noncomputable def CS (sf1 : (List Aa) → Ah → Int → Option ((List Ac)))  (y2 : Aa) (y41 : (List Ac)) (y43 : (List Ac)) (x55 : Bool) : Option ((List Ac)) :=
 cond x55 ((A1 y41 y43).bind fun y60 => (Co 5 y2.Op 0).bind fun y61 => (AF y60 y61).bind fun y62 => some y62) (cond (y2.Op == 17) (Du sf1 y41 y43 8 1) (Du sf1 y41 y43 7 0))
noncomputable def BQ (sf1 : (List Aa) → Ah → Int → Option ((List Ac)))  (p0 : (List Aa)) (p1 : Ah) (p2 : Int) (y2 : Aa) (x30 : Bool) : Option ((List Ac)) :=
 cond x30 ((sf1 p0 p1 (w64 (p2 + 1))).bind fun y35 => (Co 5 y2.Op 0).bind fun y36 => (AF y35 y36).bind fun y37 => some y37) ((sf1 p0 p1 (w64 (p2 + 1))).bind fun y41 => (AD p0 p2 1).bind fun y42 => (sf1 p0 p1 y42).bind fun y43 => cond (y2.Op != 16) (CS sf1 y2 y41 y43 (y2.Op != 17)) (CS sf1 y2 y41 y43 false))
noncomputable def F6 (sf1 : (List Aa) → Ah → Int → Option ((List Ac)))  (p0 : (List Aa)) (p1 : Ah) (p2 : Int) : Option ((List Ac)) :=
 (lAt p0 p2).bind fun y2 => cond (y2.Op == 1) ((Co 2 y2.N 0).bind fun y23 => some y23) (cond (y2.Op == 2) ((lAt p1.Nums p2).bind fun y27 => (Co 3 y27 0).bind fun y28 => some y28) (cond (y2.Op == 3) (BQ sf1 p0 p1 p2 y2 (y2.Op == 3)) (BQ sf1 p0 p1 p2 y2 (y2.Op == 4))))
noncomputable def AN : Nat → (List Aa) → Ah → Int → Option ((List Ac))
 | 0 => fun _ _ _ => none
 | n + 1 => F6 (AN n)
noncomputable def Be (p0 : (List Aa)) (p1 : Ah) (p2 : Int) : Option ((List Ac)) :=
 (AN 4000) p0 p1 p2
noncomputable def HN (p0 : (List Aa)) (p1 : Ah) (p2 : Int) : Option ((List Ac)) :=
 (lAt p1.Nums p2).bind fun y3 => (lAt p1.Chans y3).bind fun y4 => cond (y4.Size == 0) ((Co 9 y4.Base 0).bind fun y10 => some y10) ((Be p0 p1 (w64 (p2 + 1))).bind fun y14 => (Co 9 y4.Base y4.Size).bind fun y15 => (AF y14 y15).bind fun y16 => some y16)
noncomputable def AO (p0 : (List Aa)) (p1 : Ah) (p2 : Int) : Option ((List Ac)) :=
 (lAt p0 p2).bind fun y7 => cond (y7.Op == 33) ((HN p0 p1 p2).bind fun y10 => some y10) ((Be p0 p1 p2).bind fun y12 => some y12)
noncomputable def Cv (p0 : (List Aa)) (p1 : Ah) (y2 : (List Int)) (x21 : Int) (x22 : (List Ac)) : Option ((Int × (List Ac)) ⊕ ((List Ac))) :=
 cond (decide (x21 < ((y2).length : Int))) ((lAt y2 x21).bind fun y34 => (AO p0 p1 y34).bind fun y35 => (Ar x22 y35).bind fun y36 => some (.inl ((w64 (x21 + 1)),y36))) ((some x22).map Sum.inr)
noncomputable def AG (p0 : (List Aa)) (p1 : Ah) (p2 : Int) : Option ((List Ac)) :=
 (AP p0 p2).bind fun y2 => Loop (fun s : (Int × (List Ac)) => Cv p0 p1 y2 s.1 s.2) (0,([] : (List Ac)))
noncomputable def Df (x35 : Int) (x36 : (List Ac)) (y55 : Ac) (x60 : Int) (x61 : Int) : Option ((Int × (List Ac)) ⊕ ((List Ac))) :=
 grd (((x36).length + ([(⟨y55.Op,x60,x61⟩ : Ac)]).length) * 24 ≤ 140737488355328) <| some (.inl ((w64 (x35 + 1)),(x36 ++ [(⟨y55.Op,x60,x61⟩ : Ac)])))
noncomputable def Hx (p1 : Int) (o0 : (List Ac)) (x35 : Int) (x36 : (List Ac)) : Option ((Int × (List Ac)) ⊕ ((List Ac))) :=
 cond (decide (x35 < ((o0).length : Int))) ((lAt o0 x35).bind fun y55 => (Es y55.Op).bind fun y64 => cond (y64 == 1) (Df x35 x36 y55 (w64 (y55.A + p1)) y55.B) (cond (y64 == 2) (Df x35 x36 y55 y55.A (w64 (y55.B + p1))) (Df x35 x36 y55 y55.A y55.B))) ((some x36).map Sum.inr)
noncomputable def GH (p1 : Int) (o0 : (List Ac)) : Option ((List Ac)) :=
 Loop (fun s : (Int × (List Ac)) => Hx p1 o0 s.1 s.2) (0,([] : (List Ac)))
noncomputable def CQ (p3 : Int) (y38 : (List Ac)) (x44 : (List Ac)) : Option ((List Ac)) :=
 grd (((y38).length + ([(⟨7,(w64 ((w64 (((y38).length : Int) + 1)) + ((x44).length : Int))),0⟩ : Ac)]).length) * 24 ≤ 140737488355328) <| (A1 (y38 ++ [(⟨7,(w64 ((w64 (((y38).length : Int) + 1)) + ((x44).length : Int))),0⟩ : Ac)]) x44).bind fun y49 => (GH p3 y49).bind fun y50 => some y50
noncomputable def B5 (p0 : (List Aa)) (p1 : Ah) (p2 : Int) (p3 : Int) (y2 : Aa) (x30 : (List Ac)) : Option ((List Ac)) :=
 cond (y2.N == 0) ((Ch x30 p3).bind fun y36 => some y36) ((AO p0 p1 (w64 (p2 + 1))).bind fun y38 => cond (y2.Op == 34) ((lAt x30 (w64 (((x30).length : Int) - 1))).bind fun y52 => (lAt x30 (w64 (((x30).length : Int) - 1))).bind fun y53 => CQ p3 y38 (List.set x30 (Int.toNat (w64 (((x30).length : Int) - 1))) (⟨y53.Op,y53.A,(w64 (y52.B - (w64 (((y38).length : Int) + 1))))⟩ : Ac))) ((lAt x30 (w64 (((x30).length : Int) - 1))).bind fun y54 => (lAt x30 (w64 (((x30).length : Int) - 1))).bind fun y55 => CQ p3 y38 (List.set x30 (Int.toNat (w64 (((x30).length : Int) - 1))) (⟨y55.Op,(w64 (y54.A - (w64 (((y38).length : Int) + 1)))),y55.B⟩ : Ac))))
noncomputable def B6 (p0 : (List Aa)) (p1 : Ah) (p2 : Int) (p3 : Int) (p4 : Int) (y2 : Aa) (x11 : (List Ac)) : Option ((List Ac)) :=
 cond (y2.Op == 34) ((lAt p1.Nums p2).bind fun y57 => grd (((x11).length + ([(⟨19,y57,(w64 (p4 - p3))⟩ : Ac)]).length) * 24 ≤ 140737488355328) <| B5 p0 p1 p2 p3 y2 (x11 ++ [(⟨19,y57,(w64 (p4 - p3))⟩ : Ac)])) (cond (y2.Op == 35) ((AD p0 p2 (w64 (y2.N + 1))).bind fun y67 => (AO p0 p1 y67).bind fun y68 => (Ar x11 y68).bind fun y69 => grd (((y69).length + ([(⟨20,(w64 (p4 - p3)),0⟩ : Ac)]).length) * 24 ≤ 140737488355328) <| B5 p0 p1 p2 p3 y2 (y69 ++ [(⟨20,(w64 (p4 - p3)),0⟩ : Ac)])) (cond (y2.Op == 36) (grd (((x11).length + ([(⟨21,(w64 (p4 - p3)),0⟩ : Ac)]).length) * 24 ≤ 140737488355328) <| B5 p0 p1 p2 p3 y2 (x11 ++ [(⟨21,(w64 (p4 - p3)),0⟩ : Ac)])) (grd (((x11).length + ([(⟨22,(w64 (p4 - p3)),0⟩ : Ac)]).length) * 24 ≤ 140737488355328) <| B5 p0 p1 p2 p3 y2 (x11 ++ [(⟨22,(w64 (p4 - p3)),0⟩ : Ac)]))))
noncomputable def FI (p0 : (List Aa)) (p1 : Ah) (p2 : Int) (p3 : Int) (p4 : Int) (y2 : Aa) (x76 : Bool) : Option ((List Ac)) :=
 cond x76 ((AD p0 p2 y2.N).bind fun y78 => (AO p0 p1 y78).bind fun y79 => B6 p0 p1 p2 p3 p4 y2 y79) (B6 p0 p1 p2 p3 p4 y2 ([] : (List Ac)))
noncomputable def Bq (p0 : (List Aa)) (p1 : Ah) (p2 : Int) (p3 : Int) (p4 : Int) : Option ((List Ac)) :=
 (lAt p0 p2).bind fun y2 => cond (y2.Op == 34) (FI p0 p1 p2 p3 p4 y2 true) (cond (y2.Op == 35) (FI p0 p1 p2 p3 p4 y2 true) (FI p0 p1 p2 p3 p4 y2 (y2.Op == 36)))
noncomputable def HM (p0 : (List Aa)) (p1 : Ah) (p2 : Int) : Option (Int) :=
 (Bq p0 p1 p2 0 0).bind fun y2 => some ((y2).length : Int)
noncomputable def A0 (p1 : (List Ac)) (o0 : (List Ac)) : Option ((List Ac)) :=
 grd (((([] : List Ac)).length + (o0).length) * 24 ≤ 140737488355328) <| (Ch p1 ((o0).length : Int)).bind fun y5 => grd ((((([] : List Ac) ++ o0)).length + (y5).length) * 24 ≤ 140737488355328) <| some ((([] : List Ac) ++ o0) ++ y5)
noncomputable def Cl (sf1 : (List Aa) → Ah → Int → Option ((List Ac)))  (y2 : (List Int)) (x62 : Int) (x64 : (List (List Ac))) (x171 : Int) (x172 : (List Ac)) : Option ((Int × (List Ac)) ⊕ ((List Ac))) :=
 cond (decide (x171 < ((y2).length : Int))) ((lAt x64 x171).bind fun y184 => (A1 x172 y184).bind fun y185 => grd (((y185).length + ([(⟨6,x62,0⟩ : Ac)]).length) * 24 ≤ 140737488355328) <| some (.inl ((w64 (x171 + 1)),(y185 ++ [(⟨6,x62,0⟩ : Ac)])))) ((some x172).map Sum.inr)
noncomputable def Ck (sf1 : (List Aa) → Ah → Int → Option ((List Ac)))  (p0 : (List Aa)) (p1 : Ah) (y2 : (List Int)) (x62 : Int) (x64 : (List (List Ac))) (x128 : Int) (x129 : Int) (x130 : (List Ac)) : Option ((Int × Int × (List Ac)) ⊕ ((List Ac))) :=
 cond (decide (x129 < ((y2).length : Int))) ((lAt y2 x129).bind fun y145 => (Bq p0 p1 y145 ((x130).length : Int) x128).bind fun y146 => grd (((x130).length + (y146).length) * 24 ≤ 140737488355328) <| (lAt x64 x129).bind fun y148 => some (.inl ((w64 ((w64 (x128 + ((y148).length : Int))) + 1)),(w64 (x129 + 1)),(x130 ++ y146)))) ((grd (((x130).length + ([(⟨23,0,0⟩ : Ac)]).length) * 24 ≤ 140737488355328) <| Loop (fun s : (Int × (List Ac)) => Cl sf1 y2 x62 x64 s.1 s.2) (0,(x130 ++ [(⟨23,0,0⟩ : Ac)]))).map Sum.inr)
noncomputable def Cj (sf1 : (List Aa) → Ah → Int → Option ((List Ac)))  (p0 : (List Aa)) (p1 : Ah) (p2 : Int) (y2 : (List Int)) (x15 : Int) (x62 : Int) (x63 : Int) (x64 : (List (List Ac))) : Option ((Int × Int × (List (List Ac))) ⊕ ((List Ac))) :=
 cond (decide (x63 < ((y2).length : Int))) ((lAt y2 x63).bind fun y88 => (lAt y2 x63).bind fun y89 => (lAt p0 y89).bind fun y90 => (AD p0 y88 (w64 (y90.Kids - 1))).bind fun y91 => (sf1 p0 p1 y91).bind fun y92 => grd (((x64).length + ([y92]).length) * 24 ≤ 140737488355328) <| (lAt (x64 ++ [y92]) x63).bind fun y94 => some (.inl ((w64 ((w64 (x62 + ((y94).length : Int))) + 1)),(w64 (x63 + 1)),(x64 ++ [y92])))) (((DM p0 p2).bind fun y101 => (AB 1 y101 0).bind fun y102 => (AB 25 0 0).bind fun y103 => (AF y102 y103).bind fun y104 => Loop (fun s : (Int × Int × (List Ac)) => Ck sf1 p0 p1 y2 x62 x64 s.1 s.2.1 s.2.2) ((w64 (x15 + 1)),0,y104)).map Sum.inr)
noncomputable def Ci (sf1 : (List Aa) → Ah → Int → Option ((List Ac)))  (p0 : (List Aa)) (p1 : Ah) (p2 : Int) (y2 : (List Int)) (x15 : Int) (x16 : Int) : Option ((Int × Int) ⊕ ((List Ac))) :=
 cond (decide (x16 < ((y2).length : Int))) ((lAt y2 x16).bind fun y23 => (HM p0 p1 y23).bind fun y24 => some (.inl ((w64 (x15 + y24)),(w64 (x16 + 1))))) ((Loop (fun s : (Int × Int × (List (List Ac))) => Cj sf1 p0 p1 p2 y2 x15 s.1 s.2.1 s.2.2) ((w64 (x15 + 1)),0,([] : (List (List Ac))))).map Sum.inr)
noncomputable def Eb (sf1 : (List Aa) → Ah → Int → Option ((List Ac)))  (p0 : (List Aa)) (p1 : Ah) (p2 : Int) : Option ((List Ac)) :=
 (AP p0 p2).bind fun y2 => Loop (fun s : (Int × Int) => Ci sf1 p0 p1 p2 y2 s.1 s.2) (2,0)
noncomputable def AJ (sf1 : (List Aa) → Ah → Int → Option ((List Ac)))  (p0 : (List Aa)) (p1 : Ah) (p2 : Int) (y4 : Aa) (y6 : (List Ac)) (x112 : Bool) : Option ((List Ac)) :=
 cond x112 ((AG p0 p1 p2).bind fun y121 => (Ar y6 y121).bind fun y122 => (lAt p1.Nums p2).bind fun y123 => (AB 4 y123 0).bind fun y124 => (AF y122 y124).bind fun y125 => some y125) (cond (y4.Op == 20) ((AG p0 p1 p2).bind fun y134 => (Ar y6 y134).bind fun y135 => (lAt p1.Nums p2).bind fun y136 => (AB 12 y136 0).bind fun y137 => (AF y135 y137).bind fun y138 => some y138) (cond (y4.Op == 21) ((AG p0 p1 p2).bind fun y144 => (Ar y6 y144).bind fun y145 => (AB 10 0 0).bind fun y146 => (AF y145 y146).bind fun y147 => some y147) (cond (y4.Op == 22) ((AG p0 p1 p2).bind fun y156 => (Ar y6 y156).bind fun y157 => (lAt p1.Nums p2).bind fun y158 => (AB 11 y158 0).bind fun y159 => (AF y157 y159).bind fun y160 => some y160) (cond (y4.Op == 27) ((AG p0 p1 p2).bind fun y166 => (Ar y6 y166).bind fun y167 => (AB 13 0 0).bind fun y168 => (AF y167 y168).bind fun y169 => some y169) (cond (y4.Op == 28) ((AG p0 p1 p2).bind fun y175 => (Ar y6 y175).bind fun y176 => (AB 15 0 0).bind fun y177 => (AF y176 y177).bind fun y178 => some y178) (cond (y4.Op == 29) ((AG p0 p1 p2).bind fun y184 => (Ar y6 y184).bind fun y185 => (AB 16 0 0).bind fun y186 => (AF y185 y186).bind fun y187 => some y187) (cond (y4.Op == 30) ((AB 17 0 0).bind fun y191 => (Ar y6 y191).bind fun y192 => some y192) (cond (y4.Op == 31) ((AB 18 0 0).bind fun y196 => (Ar y6 y196).bind fun y197 => some y197) (cond (y4.Op == 26) ((AG p0 p1 p2).bind fun y206 => (Ar y6 y206).bind fun y207 => (lAt p1.Nums p2).bind fun y208 => (AB 14 y208 y4.Kids).bind fun y209 => (AF y207 y209).bind fun y210 => some y210) (cond (y4.Op == 25) ((Eb sf1 p0 p1 p2).bind fun y213 => some y213) ((Be p0 p1 (w64 (p2 + 1))).bind fun y216 => (Ar y6 y216).bind fun y217 => (AD p0 p2 1).bind fun y220 => (sf1 p0 p1 y220).bind fun y221 => cond (y4.Op == 24) ((AB 7 (w64 ((w64 ((w64 ((w64 (((y217).length : Int) + 1)) + ((y221).length : Int))) + 1)) - ((y217).length : Int))) 0).bind fun y239 => (Ar y217 y239).bind fun y240 => (A0 y221 y240).bind fun y241 => (AB 6 (w64 ((w64 (0 - (w64 ((w64 ((w64 (((y217).length : Int) + 1)) + ((y221).length : Int))) + 1)))) + 1)) 0).bind fun y242 => (AF y241 y242).bind fun y243 => some y243) (cond (y4.Kids == 2) ((AB 7 (w64 (1 + ((y221).length : Int))) 0).bind fun y255 => (Ar y217 y255).bind fun y256 => (A0 y221 y256).bind fun y257 => some y257) ((AD p0 p2 2).bind fun y260 => (sf1 p0 p1 y260).bind fun y261 => (AB 7 (w64 (2 + ((y221).length : Int))) 0).bind fun y265 => (Ar y217 y265).bind fun y266 => (A0 y221 y266).bind fun y267 => (AB 6 (w64 (1 + ((y261).length : Int))) 0).bind fun y271 => (Ar y267 y271).bind fun y272 => (A0 y261 y272).bind fun y273 => some y273)))))))))))))
noncomputable def F5 (sf1 : (List Aa) → Ah → Int → Option ((List Ac)))  (p0 : (List Aa)) (p1 : Ah) (p2 : Int) : Option ((List Ac)) :=
 (lAt p0 p2).bind fun y4 => (DM p0 p2).bind fun y5 => (AB 1 y5 0).bind fun y6 => cond (y4.Op == 18) (AJ sf1 p0 p1 p2 y4 y6 (y4.Op == 18)) (AJ sf1 p0 p1 p2 y4 y6 (y4.Op == 19))
noncomputable def Cw (sf1 : (List Aa) → Ah → Int → Option ((List Ac)))  (p0 : (List Aa)) (p1 : Ah) (y2 : (List Int)) (x21 : Int) (x22 : (List Ac)) : Option ((Int × (List Ac)) ⊕ ((List Ac))) :=
 cond (decide (x21 < ((y2).length : Int))) ((lAt y2 x21).bind fun y34 => (F5 sf1 p0 p1 y34).bind fun y35 => (Ar x22 y35).bind fun y36 => some (.inl ((w64 (x21 + 1)),y36))) ((some x22).map Sum.inr)
noncomputable def FJ (sf1 : (List Aa) → Ah → Int → Option ((List Ac)))  (p0 : (List Aa)) (p1 : Ah) (p2 : Int) : Option ((List Ac)) :=
 (AP p0 p2).bind fun y2 => Loop (fun s : (Int × (List Ac)) => Cw sf1 p0 p1 y2 s.1 s.2) (0,([] : (List Ac)))
noncomputable def B7 : Nat → (List Aa) → Ah → Int → Option ((List Ac))
 | 0 => fun _ _ _ => none
 | n + 1 => FJ (B7 n)
noncomputable def Hy (p0 : (List Aa)) (p1 : Ah) (p2 : Int) : Option ((List Ac)) :=
 (B7 4000) p0 p1 p2
noncomputable def Gh (x118 : Int) (x129 : Int) : Option ((Int × Int) ⊕ (AA)) :=
 some (.inl ((w64 (x118 + 1)),x129))
noncomputable def CN (p0 : (List Aa)) (y2 : Ap) (x53 : (List Ac)) (x54 : (List Ao)) (x118 : Int) (x119 : Int) : Option ((Int × Int) ⊕ (AA)) :=
 cond (decide (x118 < ((p0).length : Int))) ((lAt p0 x118).bind fun y132 => (DR y132).bind fun y133 => cond y133 (Gh x118 (w64 (x119 + 1))) (Gh x118 x119)) ((cond (decide (65536 < ((x53).length : Int))) (some (⟨(⟨([] : List Ac),([] : List Ao),([] : List Ak),0,0⟩ : Au),((p0).length : Int),5⟩ : AA)) (some (⟨(⟨x53,x54,y2.P.Chans,y2.P.Main,x119⟩ : Au),0,0⟩ : AA))).map Sum.inr)
noncomputable def Gg (p0 : (List Aa)) (y2 : Ap) (x52 : Int) (x53 : (List Ac)) (x54 : (List Ao)) : Option ((Int × (List Ac) × (List Ao)) ⊕ (AA)) :=
 cond (decide (x52 < ((y2.P.Routines).length : Int))) ((lAt y2.P.Routines x52).bind fun y79 => grd (((x54).length + ([(⟨y79.Name,((x53).length : Int),y79.Params,((y79.Vars).length : Int)⟩ : Ao)]).length) * 40 ≤ 140737488355328) <| (lAt p0 y79.Node).bind fun y92 => (AD p0 y79.Node (w64 (y92.Kids - 1))).bind fun y93 => (Hy p0 y2.P y93).bind fun y94 => (A1 x53 y94).bind fun y95 => grd (((y95).length + ([(⟨24,0,0⟩ : Ac)]).length) * 24 ≤ 140737488355328) <| some (.inl ((w64 (x52 + 1)),(y95 ++ [(⟨24,0,0⟩ : Ac)]),(x54 ++ [(⟨y79.Name,((x53).length : Int),y79.Params,((y79.Vars).length : Int)⟩ : Ao)])))) ((Loop (fun s : (Int × Int) => CN p0 y2 x53 x54 s.1 s.2) (0,0)).map Sum.inr)
noncomputable def Hv (p0 : (List Aa)) : Option (AA) :=
 (ET p0).bind fun y2 => cond (y2.E != 0) (some (⟨(⟨([] : List Ac),([] : List Ao),([] : List Ak),0,0⟩ : Au),y2.At,y2.E⟩ : AA)) (Loop (fun s : (Int × (List Ac) × (List Ao)) => Gg p0 y2 s.1 s.2.1 s.2.2) (0,([] : (List Ac)),([] : (List Ao))))
noncomputable def FK (y8 : AA) (x10 : Int) : Option (AA) :=
 some (⟨y8.C,x10,y8.E⟩ : AA)
noncomputable def GG (p0 : ByteArray) : Option (AA) :=
 (GJ p0).bind fun y2 => cond (y2.E != 0) (some (⟨(⟨([] : List Ac),([] : List Ao),([] : List Ak),0,0⟩ : Au),y2.At,y2.E⟩ : AA)) ((FF p0).bind fun y7 => (Hv y7.L).bind fun y8 => cond (y8.E != 0) (FK y8 (p0.size : Int)) (FK y8 y8.At))
noncomputable def Dt (x25 : Bool) : Option (Bool) :=
 some x25
noncomputable def Cq (y8 : AA) (x16 : Bool) : Option (Bool) :=
 cond x16 ((DO).bind fun y19 => some y19) ((Cr y8.C).bind fun y21 => cond (y21.1 == 0) (cond (y21.2 == 0) ((DO).bind fun y28 => Dt y28) (Dt false)) (Dt false))
noncomputable def FG (p0 : ByteArray) : Option (Bool) :=
 cond (decide (700 < (p0.size : Int))) ((DO).bind fun y6 => some y6) ((GG p0).bind fun y8 => cond (y8.E != 0) (Cq y8 true) (Cq y8 (decide (400 < ((y8.C.Ins).length : Int)))))
end Go.Ab
