import Derived.Test.YtdcgabaobopjpaaAbLib
import Derived.Test.YtdcgabaobopjpaaProg
namespace Go.Ab
open Go.Proofs
set_option linter.unusedVariables false
structure T_retracelaw03_Part where
  Kind : Int
  U : Int
  N : Int
  B : Bool
  S : ByteArray
  L : (List Int)
abbrev T_retracelaw03_Part.enc (x : T_retracelaw03_Part) : List D := [.int .i64 x.Kind, .int .u64 x.U, .int .i64 x.N, .bool x.B, .str x.S, .list false (x.L).length (encL (eInt .i64) x.L)]
theorem T_retracelaw03_Part.enc_len (x : T_retracelaw03_Part) : (T_retracelaw03_Part.enc x).length = 6 := rfl
abbrev T_retracelaw03_Part.pvs (x : T_retracelaw03_Part) : List PV := [i64 x.Kind, u64 x.U, i64 x.N, bo x.B, sv x.S, lv (eInt .i64) x.L]
structure T_wire_Writer where
  s : (List Int)
abbrev T_wire_Writer.enc (x : T_wire_Writer) : List D := [.list false (x.s).length (encL (eInt .u8) x.s)]
theorem T_wire_Writer.enc_len (x : T_wire_Writer) : (T_wire_Writer.enc x).length = 1 := rfl
abbrev T_wire_Writer.pvs (x : T_wire_Writer) : List PV := [lv (eInt .u8) x.s]
structure T_wire_Reader where
  s : ByteArray
  e : Int
abbrev T_wire_Reader.enc (x : T_wire_Reader) : List D := [.str x.s, .int .i64 x.e]
theorem T_wire_Reader.enc_len (x : T_wire_Reader) : (T_wire_Reader.enc x).length = 2 := rfl
abbrev T_wire_Reader.pvs (x : T_wire_Reader) : List PV := [sv x.s, i64 x.e]

/- retracelaw03_long -/
noncomputable def F_retracelaw03_long_J2 (x32 : Int) (x53 : Bool) : Option ((Int) ⊕ (Bool)) :=
  cond x53 ((some true).map Sum.inr) (some (.inl (w64 (x32 + 1))))
noncomputable def F_retracelaw03_long_J1 (p0 : (List T_retracelaw03_Part)) (x32 : Int) (x40 : Bool) : Option ((Int) ⊕ (Bool)) :=
  cond x40 ((lAt p0 x32).bind fun y57 => cond (decide (200 < (y57.S.size : Int))) (F_retracelaw03_long_J2 x32 true) ((lAt p0 x32).bind fun y59 => F_retracelaw03_long_J2 x32 (decide (60 < ((y59.L).length : Int))))) ((some (decide (40 < ((p0).length : Int)))).map Sum.inr)
noncomputable def F_retracelaw03_long_L3 (p0 : (List T_retracelaw03_Part)) (x32 : Int) : Option ((Int) ⊕ (Bool)) :=
  cond (decide (x32 < ((p0).length : Int))) (F_retracelaw03_long_J1 p0 x32 (decide (x32 < 40))) (F_retracelaw03_long_J1 p0 x32 false)
noncomputable def F_retracelaw03_long (p0 : (List T_retracelaw03_Part)) : Option (Bool) :=
  Loop (fun s : (Int) => F_retracelaw03_long_L3 p0 s) 0
/- vint_Zig -/
noncomputable def F_vint_Zig (p0 : Int) : Option (Int) :=
  some (bits .xor .u64 (wu64 ((wu64 p0) * 2)) (wu64 (Int.fdiv p0 9223372036854775808)))
/- vint_Size -/
noncomputable def F_vint_Size_L1 (x9 : Int) (x10 : Int) : Option ((Int × Int) ⊕ (Int)) :=
  cond (decide (128 ≤ x9)) (some (.inl ((Int.fdiv x9 128), (w64 (x10 + 1))))) ((some x10).map Sum.inr)
noncomputable def F_vint_Size (p0 : Int) : Option (Int) :=
  Loop (fun s : (Int × Int) => F_vint_Size_L1 s.1 s.2) (p0, 1)
/- vint_Put -/
noncomputable def F_vint_Put_L1 (x17 : Int) (x18 : (List Int)) : Option ((Int × (List Int)) ⊕ (ByteArray)) :=
  cond (decide (128 ≤ x17)) (grd (((x18).length + ([(bits .or .u8 (wu8 x17) 128)]).length) * 1 ≤ 140737488355328) <| some (.inl ((Int.fdiv x17 128), (x18 ++ [(bits .or .u8 (wu8 x17) 128)])))) ((grd (((x18).length + ([(wu8 x17)]).length) * 1 ≤ 140737488355328) <| some (strOfNums (x18 ++ [(wu8 x17)]))).map Sum.inr)
noncomputable def F_vint_Put (p0 : ByteArray) (p1 : Int) : Option (ByteArray) :=
  (F_vint_Size p1).bind fun y3 => grd ((0 : Int) ≤ 0 ∧ 0 ≤ (w64 ((p0.size : Int) + y3)) ∧ (w64 ((p0.size : Int) + y3)) ≤ 281474976710656 ∧ (1 : Int) * (w64 ((p0.size : Int) + y3)) ≤ 281474976710656) <| grd (((([] : List Int)).length + p0.size) * 1 ≤ 140737488355328) <| Loop (fun s : (Int × (List Int)) => F_vint_Put_L1 s.1 s.2) (p1, (([] : List Int) ++ (sB p0)))
/- vint_PutInt -/
noncomputable def F_vint_PutInt (p0 : ByteArray) (p1 : Int) : Option (ByteArray) :=
  (F_vint_Zig p1).bind fun y3 => (F_vint_Put p0 y3).bind fun y4 => some y4
/- wire_Writer_add -/
noncomputable def F_wire_Writer_add (p1 : ByteArray) (o0 : T_wire_Writer) : Option (T_wire_Writer) :=
  grd (((o0.s).length + p1.size) * 1 ≤ 140737488355328) <| some (⟨(o0.s ++ (sB p1))⟩ : T_wire_Writer)
/- wire_Writer_Int -/
noncomputable def F_wire_Writer_Int (p1 : Int) (o0 : T_wire_Writer) : Option (T_wire_Writer) :=
  (F_vint_PutInt (⟨#[]⟩ : ByteArray) p1).bind fun y1 => (F_wire_Writer_add y1 o0).bind fun y2 => some y2
/- wire_Writer_Num -/
noncomputable def F_wire_Writer_Num (p1 : Int) (o0 : T_wire_Writer) : Option (T_wire_Writer) :=
  (F_vint_Put (⟨#[]⟩ : ByteArray) p1).bind fun y1 => (F_wire_Writer_add y1 o0).bind fun y2 => some y2
/- wire_Writer_Text -/
noncomputable def F_wire_Writer_Text (p1 : ByteArray) (o0 : T_wire_Writer) : Option (T_wire_Writer) :=
  (F_wire_Writer_Num (wu64 (p1.size : Int)) o0).bind fun y2 => (F_wire_Writer_add p1 y2).bind fun y3 => some y3
/- wire_Writer_Bool -/
noncomputable def F_wire_Writer_Bool (p1 : Bool) (o0 : T_wire_Writer) : Option (T_wire_Writer) :=
  cond p1 ((F_wire_Writer_add (⟨#[1]⟩ : ByteArray) o0).bind fun y2 => some y2) ((F_wire_Writer_add (⟨#[0]⟩ : ByteArray) o0).bind fun y3 => some y3)
/- wire_Writer_Bytes -/
noncomputable def F_wire_Writer_Bytes (o0 : T_wire_Writer) : Option (ByteArray) :=
  some (strOfNums o0.s)
/- wire_Open -/
noncomputable def F_wire_Open (p0 : ByteArray) : Option (T_wire_Reader) :=
  some (⟨p0, 0⟩ : T_wire_Reader)
/- vint_Get -/
noncomputable def F_vint_Get_J2 (x90 : Int) : Option (Int × Int × Int) :=
  some (0, 0, x90)
noncomputable def F_vint_Get_J3 (p1 : Int) (x95 : Int) (x96 : Int) (y135 : Int) (x156 : Bool) : Option ((Int × Int) ⊕ (Int × Int × Int)) :=
  cond x156 ((F_vint_Get_J2 3).map Sum.inr) (cond (decide (y135 < 128)) (grd ((0 : Int) ≤ (w64 (7 * x96))) <| (some ((bits .or .u64 x95 (wu64 ((wu64 y135) * 2 ^ (min (Int.toNat (w64 (7 * x96))) 64)))), (w64 ((w64 (p1 + x96)) + 1)), 0)).map Sum.inr) (grd ((0 : Int) ≤ (w64 (7 * x96))) <| some (.inl ((bits .or .u64 x95 (wu64 ((wu64 (bits .and .u8 y135 127)) * 2 ^ (min (Int.toNat (w64 (7 * x96))) 64)))), (w64 (x96 + 1))))))
noncomputable def F_vint_Get_J4 (p1 : Int) (x95 : Int) (x96 : Int) (y135 : Int) (x167 : Bool) : Option ((Int × Int) ⊕ (Int × Int × Int)) :=
  cond x167 (F_vint_Get_J3 p1 x95 x96 y135 x167) (cond (decide (0 < x96)) (F_vint_Get_J3 p1 x95 x96 y135 (y135 == 0)) (F_vint_Get_J3 p1 x95 x96 y135 false))
noncomputable def F_vint_Get_L5 (p0 : ByteArray) (p1 : Int) (x95 : Int) (x96 : Int) : Option ((Int × Int) ⊕ (Int × Int × Int)) :=
  cond (decide (x96 < (((sB (p0.extract (Int.toNat p1) (Int.toNat (p0.size : Int))))).length : Int))) ((lAt (sB (p0.extract (Int.toNat p1) (Int.toNat (p0.size : Int)))) x96).bind fun y135 => cond (x96 == 9) (F_vint_Get_J4 p1 x95 x96 y135 (decide (1 < y135))) (F_vint_Get_J4 p1 x95 x96 y135 false)) ((F_vint_Get_J2 2).map Sum.inr)
noncomputable def F_vint_Get_J1 (p0 : ByteArray) (p1 : Int) (x6 : Bool) : Option (Int × Int × Int) :=
  cond x6 (some (0, 0, 1)) (grd ((0 : Int) ≤ p1 ∧ p1 ≤ (p0.size : Int) ∧ (p0.size : Int) ≤ (p0.size : Int)) <| grd ((p0.extract (Int.toNat p1) (Int.toNat (p0.size : Int))).size ≤ 281474976710656) <| Loop (fun s : (Int × Int) => F_vint_Get_L5 p0 p1 s.1 s.2) (0, 0))
noncomputable def F_vint_Get (p0 : ByteArray) (p1 : Int) : Option (Int × Int × Int) :=
  cond (decide (p1 < 0)) (F_vint_Get_J1 p0 p1 true) (F_vint_Get_J1 p0 p1 (decide ((p0.size : Int) < p1)))
/- vint_Zag -/
noncomputable def F_vint_Zag (p0 : Int) : Option (Int) :=
  some (bits .xor .i64 (w64 (Int.fdiv p0 2)) (w64 (0 - (w64 (bits .and .u64 p0 1)))))
/- vint_GetInt -/
noncomputable def F_vint_GetInt (p0 : ByteArray) (p1 : Int) : Option (Int × Int × Int) :=
  (F_vint_Get p0 p1).bind fun y2 => (F_vint_Zag y2.1).bind fun y4 => some (y4, y2.2.1, y2.2.2)
/- wire_Reader_Int_1 -/
noncomputable def F_wire_Reader_Int_1 (p0 : ByteArray) (o0_0 : Int) : Option (Int × Int × Int) :=
  (F_vint_GetInt p0 0).bind fun y2 => some (y2.2.1, y2.2.2, y2.1)
/- wire_Reader_step -/
noncomputable def F_wire_Reader_step (o0 : T_wire_Reader) (o1_0 : Int) : Option (Bool × T_wire_Reader × Int) :=
  cond (o0.e != 0) (some (false, o0, o1_0)) ((F_wire_Reader_Int_1 o0.s o1_0).bind fun y4 => cond (y4.2.1 != 0) (some (false, (⟨o0.s, y4.2.1⟩ : T_wire_Reader), y4.2.2)) (grd ((0 : Int) ≤ y4.1 ∧ y4.1 ≤ (o0.s.size : Int) ∧ (o0.s.size : Int) ≤ (o0.s.size : Int)) <| some (true, (⟨(o0.s.extract (Int.toNat y4.1) (Int.toNat (o0.s.size : Int))), o0.e⟩ : T_wire_Reader), y4.2.2)))
/- wire_Reader_Int -/
noncomputable def F_wire_Reader_Int (o0 : T_wire_Reader) : Option (Int × T_wire_Reader) :=
  (F_wire_Reader_step o0 0).bind fun y2 => some (y2.2.2, y2.2.1)
/- wire_Reader_Upto_1 -/
noncomputable def F_wire_Reader_Upto_1_J1 (y2 : Int × Int × Int) (x11 : Bool) : Option (Int × Int × Int) :=
  cond x11 (some (0, 6, y2.1)) (some (y2.2.1, y2.2.2, y2.1))
noncomputable def F_wire_Reader_Upto_1 (p0 : ByteArray) (o0_0 : Int) (o1_0 : Int) : Option (Int × Int × Int) :=
  (F_vint_Get p0 0).bind fun y2 => cond (y2.2.2 == 0) (cond (decide (o1_0 < 0)) (F_wire_Reader_Upto_1_J1 y2 true) (F_wire_Reader_Upto_1_J1 y2 (decide ((wu64 o1_0) < y2.1)))) (F_wire_Reader_Upto_1_J1 y2 false)
/- wire_Reader_step_v2 -/
noncomputable def F_wire_Reader_step_v2 (o0 : T_wire_Reader) (o1_0 : Int) (o2_0 : Int) : Option (Bool × T_wire_Reader × Int) :=
  cond (o0.e != 0) (some (false, o0, o1_0)) ((F_wire_Reader_Upto_1 o0.s o1_0 o2_0).bind fun y4 => cond (y4.2.1 != 0) (some (false, (⟨o0.s, y4.2.1⟩ : T_wire_Reader), y4.2.2)) (grd ((0 : Int) ≤ y4.1 ∧ y4.1 ≤ (o0.s.size : Int) ∧ (o0.s.size : Int) ≤ (o0.s.size : Int)) <| some (true, (⟨(o0.s.extract (Int.toNat y4.1) (Int.toNat (o0.s.size : Int))), o0.e⟩ : T_wire_Reader), y4.2.2)))
/- wire_Reader_Upto -/
noncomputable def F_wire_Reader_Upto (p1 : Int) (o0 : T_wire_Reader) : Option (Int × T_wire_Reader) :=
  (F_wire_Reader_step_v2 o0 0 p1).bind fun y2 => cond (!y2.1) (some (0, y2.2.1)) (some ((w64 y2.2.2), y2.2.1))
/- wire_Reader_Raw_1 -/
noncomputable def F_wire_Reader_Raw_1 (p0 : ByteArray) (o0_0 : Int) (o1_0 : ByteArray) : Option (Int × Int × ByteArray) :=
  cond (decide (o0_0 < 0)) (some (0, 1, o1_0)) (cond (decide ((p0.size : Int) < o0_0)) (some (0, 2, o1_0)) (grd ((0 : Int) ≤ 0 ∧ 0 ≤ o0_0 ∧ o0_0 ≤ (p0.size : Int)) <| some (o0_0, 0, (p0.extract (Int.toNat 0) (Int.toNat o0_0)))))
/- wire_Reader_step_v3 -/
noncomputable def F_wire_Reader_step_v3 (o0 : T_wire_Reader) (o1_0 : Int) (o2_0 : ByteArray) : Option (Bool × T_wire_Reader × ByteArray) :=
  cond (o0.e != 0) (some (false, o0, o2_0)) ((F_wire_Reader_Raw_1 o0.s o1_0 o2_0).bind fun y4 => cond (y4.2.1 != 0) (some (false, (⟨o0.s, y4.2.1⟩ : T_wire_Reader), y4.2.2)) (grd ((0 : Int) ≤ y4.1 ∧ y4.1 ≤ (o0.s.size : Int) ∧ (o0.s.size : Int) ≤ (o0.s.size : Int)) <| some (true, (⟨(o0.s.extract (Int.toNat y4.1) (Int.toNat (o0.s.size : Int))), o0.e⟩ : T_wire_Reader), y4.2.2)))
/- wire_Reader_Raw -/
noncomputable def F_wire_Reader_Raw (p1 : Int) (o0 : T_wire_Reader) : Option (ByteArray × T_wire_Reader) :=
  (F_wire_Reader_step_v3 o0 p1 (⟨#[]⟩ : ByteArray)).bind fun y2 => some (y2.2.2, y2.2.1)
/- wire_Reader_Text -/
noncomputable def F_wire_Reader_Text (p1 : Int) (o0 : T_wire_Reader) : Option (ByteArray × T_wire_Reader) :=
  (F_wire_Reader_Upto p1 o0).bind fun y3 => (F_wire_Reader_Raw y3.1 y3.2).bind fun y4 => some (y4.1, y4.2)
/- wire_Reader_Bool_1 -/
noncomputable def F_wire_Reader_Bool_1 (p0 : ByteArray) (o0_0 : Int) : Option (Int × Int × Int) :=
  cond (p0.toList == (⟨#[]⟩ : ByteArray).toList) (some (0, 2, o0_0)) ((sAt p0 0).bind fun y7 => cond (decide (1 < y7)) (some (0, 3, y7)) (some (1, 0, y7)))
/- wire_Reader_step_v4 -/
noncomputable def F_wire_Reader_step_v4 (o0 : T_wire_Reader) (o1_0 : Int) : Option (Bool × T_wire_Reader × Int) :=
  cond (o0.e != 0) (some (false, o0, o1_0)) ((F_wire_Reader_Bool_1 o0.s o1_0).bind fun y4 => cond (y4.2.1 != 0) (some (false, (⟨o0.s, y4.2.1⟩ : T_wire_Reader), y4.2.2)) (grd ((0 : Int) ≤ y4.1 ∧ y4.1 ≤ (o0.s.size : Int) ∧ (o0.s.size : Int) ≤ (o0.s.size : Int)) <| some (true, (⟨(o0.s.extract (Int.toNat y4.1) (Int.toNat (o0.s.size : Int))), o0.e⟩ : T_wire_Reader), y4.2.2)))
/- wire_Reader_Bool -/
noncomputable def F_wire_Reader_Bool_J1 (y2 : Bool × T_wire_Reader × Int) (x4 : Bool) : Option (Bool × T_wire_Reader) :=
  some (x4, y2.2.1)
noncomputable def F_wire_Reader_Bool (o0 : T_wire_Reader) : Option (Bool × T_wire_Reader) :=
  (F_wire_Reader_step_v4 o0 0).bind fun y2 => cond y2.1 (F_wire_Reader_Bool_J1 y2 (y2.2.2 == 1)) (F_wire_Reader_Bool_J1 y2 false)
/- wire_Reader_Err -/
noncomputable def F_wire_Reader_Err (o0 : T_wire_Reader) : Option (Int) :=
  some o0.e
/- wire_Reader_Left -/
noncomputable def F_wire_Reader_Left (o0 : T_wire_Reader) : Option (Int) :=
  some (o0.s.size : Int)
/- wire_Reader_End -/
noncomputable def F_wire_Reader_End_J1 (y10 : Int) (x13 : Bool) : Option (Int) :=
  cond x13 (some y10) (some 3)
noncomputable def F_wire_Reader_End (o0 : T_wire_Reader) : Option (Int) :=
  (F_wire_Reader_Err o0).bind fun y10 => cond (y10 != 0) (F_wire_Reader_End_J1 y10 true) ((F_wire_Reader_Left o0).bind fun y16 => F_wire_Reader_End_J1 y10 (y16 == 0))
/- retracelaw03_live -/
noncomputable def F_retracelaw03_live_J1 (x20 : Bool) : Option (Bool) :=
  some x20
noncomputable def F_retracelaw03_live  : Option (Bool) :=
  (F_wire_Writer_Int (-1) (⟨([] : List Int)⟩ : T_wire_Writer)).bind fun y2 => (F_wire_Writer_Text (⟨#[97, 98]⟩ : ByteArray) y2).bind fun y4 => (F_wire_Writer_Bool true y4).bind fun y6 => (F_wire_Writer_Bytes y6).bind fun y9 => (F_wire_Open y9).bind fun y10 => (F_wire_Writer_Bytes y6).bind fun y21 => cond (y21.toList == (⟨#[1, 2, 97, 98, 1]⟩ : ByteArray).toList) ((F_wire_Reader_Int y10).bind fun y23 => cond (y23.1 == (-1)) ((F_wire_Reader_Text 2 y23.2).bind fun y25 => cond (y25.1.toList == (⟨#[97, 98]⟩ : ByteArray).toList) ((F_wire_Reader_Bool y25.2).bind fun y27 => cond y27.1 ((F_wire_Reader_End y27.2).bind fun y29 => F_retracelaw03_live_J1 (y29 == 0)) (F_retracelaw03_live_J1 false)) (F_retracelaw03_live_J1 false)) (F_retracelaw03_live_J1 false)) (F_retracelaw03_live_J1 false)
/- retraceref01_Num -/
noncomputable def F_retraceref01_Num_B (self : Int → Option (ByteArray)) (p0 : Int) : Option (ByteArray) :=
  cond (decide (p0 < 128)) (some (strOfNums ([(wu8 p0)]))) ((self (wu64 (Int.tdiv p0 128))).bind fun y5 => grd ((strOfNums ([(wu8 ((wu8 (Int.tmod p0 128)) + 128))])).size + y5.size ≤ 9223372036854775807) <| some ((strOfNums ([(wu8 ((wu8 (Int.tmod p0 128)) + 128))])) ++ y5))
noncomputable def F_retraceref01_Num_N : Nat → Int → Option (ByteArray)
  | 0 => fun _ => none
  | n + 1 => F_retraceref01_Num_B (F_retraceref01_Num_N n)
noncomputable def F_retraceref01_Num (p0 : Int) : Option (ByteArray) :=
  lim fun n => F_retraceref01_Num_N n p0
/- retraceref01_Zig -/
noncomputable def F_retraceref01_Zig (p0 : Int) : Option (Int) :=
  cond (decide (p0 < 0)) (some (wu64 ((wu64 ((wu64 (w64 (0 - (w64 (p0 + 1))))) * 2)) + 1))) (some (wu64 ((wu64 p0) * 2)))
/- retraceref03_Int -/
noncomputable def F_retraceref03_Int (p0 : Int) : Option (ByteArray) :=
  (F_retraceref01_Zig p0).bind fun y3 => (F_retraceref01_Num y3).bind fun y4 => some y4
/- retraceref03_Bool -/
noncomputable def F_retraceref03_Bool (p0 : Bool) : Option (ByteArray) :=
  cond p0 (some (⟨#[1]⟩ : ByteArray)) (some (⟨#[0]⟩ : ByteArray))
/- retraceref03_Text -/
noncomputable def F_retraceref03_Text (p0 : ByteArray) : Option (ByteArray) :=
  (F_retraceref01_Num (wu64 (p0.size : Int))).bind fun y3 => grd (y3.size + p0.size ≤ 9223372036854775807) <| some (y3 ++ p0)
/- wire_Writer_Raw -/
noncomputable def F_wire_Writer_Raw (p1 : ByteArray) (o0 : T_wire_Writer) : Option (T_wire_Writer) :=
  (F_wire_Writer_add p1 o0).bind fun y1 => some y1
/- wire_Writer_Ints -/
noncomputable def F_wire_Writer_Ints_L1 (p1 : (List Int)) (x3 : Int) (x4 : (List Int)) : Option ((Int × (List Int)) ⊕ (T_wire_Writer)) :=
  cond (decide (x3 < ((p1).length : Int))) ((lAt p1 x3).bind fun y13 => (F_wire_Writer_Int y13 (⟨x4⟩ : T_wire_Writer)).bind fun y14 => some (.inl ((w64 (x3 + 1)), y14.s))) ((some (⟨x4⟩ : T_wire_Writer)).map Sum.inr)
noncomputable def F_wire_Writer_Ints (p1 : (List Int)) (o0 : T_wire_Writer) : Option (T_wire_Writer) :=
  (F_wire_Writer_Num (wu64 ((p1).length : Int)) o0).bind fun y2 => Loop (fun s : (Int × (List Int)) => F_wire_Writer_Ints_L1 p1 s.1 s.2) (0, y2.s)
/- retraceref03_Ints -/
noncomputable def F_retraceref03_Ints_L1 (p0 : (List Int)) (x17 : ByteArray) (x18 : Int) : Option ((ByteArray × Int) ⊕ (ByteArray)) :=
  cond (decide (x18 < ((p0).length : Int))) ((lAt p0 x18).bind fun y26 => (F_retraceref03_Int y26).bind fun y27 => grd (x17.size + y27.size ≤ 9223372036854775807) <| some (.inl ((x17 ++ y27), (w64 (x18 + 1))))) ((some x17).map Sum.inr)
noncomputable def F_retraceref03_Ints (p0 : (List Int)) : Option (ByteArray) :=
  (F_retraceref01_Num (wu64 ((p0).length : Int))).bind fun y2 => Loop (fun s : (ByteArray × Int) => F_retraceref03_Ints_L1 p0 s.1 s.2) (y2, 0)
/- retracelaw03_write -/
noncomputable def F_retracelaw03_write (p1 : T_retracelaw03_Part) (o0 : T_wire_Writer) : Option (ByteArray × T_wire_Writer) :=
  cond (p1.Kind == 0) ((F_wire_Writer_Num p1.U o0).bind fun y31 => (F_retraceref01_Num p1.U).bind fun y33 => some (y33, y31)) (cond (p1.Kind == 1) ((F_wire_Writer_Int p1.N o0).bind fun y36 => (F_retraceref03_Int p1.N).bind fun y38 => some (y38, y36)) (cond (p1.Kind == 2) ((F_wire_Writer_Bool p1.B o0).bind fun y41 => (F_retraceref03_Bool p1.B).bind fun y43 => some (y43, y41)) (cond (p1.Kind == 3) ((F_wire_Writer_Text p1.S o0).bind fun y46 => (F_retraceref03_Text p1.S).bind fun y48 => some (y48, y46)) (cond (p1.Kind == 4) ((F_wire_Writer_Raw p1.S o0).bind fun y51 => some (p1.S, y51)) (cond (p1.Kind == 5) ((F_wire_Writer_Ints p1.L o0).bind fun y54 => (F_retraceref03_Ints p1.L).bind fun y56 => some (y56, y54)) (some ((⟨#[]⟩ : ByteArray), o0)))))))
/- wire_Reader_Num_1 -/
noncomputable def F_wire_Reader_Num_1 (p0 : ByteArray) (o0_0 : Int) : Option (Int × Int × Int) :=
  (F_vint_Get p0 0).bind fun y2 => some (y2.2.1, y2.2.2, y2.1)
/- wire_Reader_step_v5 -/
noncomputable def F_wire_Reader_step_v5 (o0 : T_wire_Reader) (o1_0 : Int) : Option (Bool × T_wire_Reader × Int) :=
  cond (o0.e != 0) (some (false, o0, o1_0)) ((F_wire_Reader_Num_1 o0.s o1_0).bind fun y4 => cond (y4.2.1 != 0) (some (false, (⟨o0.s, y4.2.1⟩ : T_wire_Reader), y4.2.2)) (grd ((0 : Int) ≤ y4.1 ∧ y4.1 ≤ (o0.s.size : Int) ∧ (o0.s.size : Int) ≤ (o0.s.size : Int)) <| some (true, (⟨(o0.s.extract (Int.toNat y4.1) (Int.toNat (o0.s.size : Int))), o0.e⟩ : T_wire_Reader), y4.2.2)))
/- wire_Reader_Num -/
noncomputable def F_wire_Reader_Num (o0 : T_wire_Reader) : Option (Int × T_wire_Reader) :=
  (F_wire_Reader_step_v5 o0 0).bind fun y2 => some (y2.2.2, y2.2.1)
/- wire_Reader_Ints -/
noncomputable def F_wire_Reader_Ints_J1 (x24 : ByteArray) (x25 : Int) (x26 : (List Int)) (x37 : Bool) : Option ((ByteArray × Int × (List Int)) ⊕ ((List Int) × T_wire_Reader)) :=
  cond x37 ((F_wire_Reader_Int (⟨x24, x25⟩ : T_wire_Reader)).bind fun y39 => grd (((x26).length + ([y39.1]).length) * 8 ≤ 140737488355328) <| some (.inl (y39.2.s, y39.2.e, (x26 ++ [y39.1])))) (((F_wire_Reader_Err (⟨x24, x25⟩ : T_wire_Reader)).bind fun y47 => cond (y47 != 0) (some (([] : List Int), (⟨x24, x25⟩ : T_wire_Reader))) (some (x26, (⟨x24, x25⟩ : T_wire_Reader)))).map Sum.inr)
noncomputable def F_wire_Reader_Ints_L2 (y2 : Int × T_wire_Reader) (x24 : ByteArray) (x25 : Int) (x26 : (List Int)) : Option ((ByteArray × Int × (List Int)) ⊕ ((List Int) × T_wire_Reader)) :=
  cond (decide (((x26).length : Int) < y2.1)) ((F_wire_Reader_Err (⟨x24, x25⟩ : T_wire_Reader)).bind fun y50 => F_wire_Reader_Ints_J1 x24 x25 x26 (y50 == 0)) (F_wire_Reader_Ints_J1 x24 x25 x26 false)
noncomputable def F_wire_Reader_Ints (p1 : Int) (o0 : T_wire_Reader) : Option ((List Int) × T_wire_Reader) :=
  (F_wire_Reader_Upto p1 o0).bind fun y2 => Loop (fun s : (ByteArray × Int × (List Int)) => F_wire_Reader_Ints_L2 y2 s.1 s.2.1 s.2.2) (y2.2.s, y2.2.e, ([] : (List Int)))
/- retraceref03_Same -/
noncomputable def F_retraceref03_Same_L1 (p1 : (List Int)) (o0 : (List Int)) (x22 : Int) : Option ((Int) ⊕ (Bool)) :=
  cond (decide (x22 < ((o0).length : Int))) ((lAt o0 x22).bind fun y34 => (lAt p1 x22).bind fun y35 => cond (y34 != y35) ((some false).map Sum.inr) (some (.inl (w64 (x22 + 1))))) ((some true).map Sum.inr)
noncomputable def F_retraceref03_Same (p1 : (List Int)) (o0 : (List Int)) : Option (Bool) :=
  cond (((o0).length : Int) != ((p1).length : Int)) (some false) (Loop (fun s : (Int) => F_retraceref03_Same_L1 p1 o0 s) 0)
/- retracelaw03_WireBack -/
noncomputable def F_retracelaw03_WireBack_J2 (x200 : Int) (x314 : Bool) (x315 : ByteArray) (x316 : Int) : Option ((Int × ByteArray × Int) ⊕ (Bool)) :=
  cond x314 ((some false).map Sum.inr) (some (.inl ((w64 (x200 + 1)), x315, x316)))
noncomputable def F_retracelaw03_WireBack_J3 (x360 : Bool) : Option (Bool) :=
  some x360
noncomputable def F_retracelaw03_WireBack_L4 (p0 : (List T_retracelaw03_Part)) (p1 : ByteArray) (x200 : Int) (x201 : ByteArray) (x202 : Int) : Option ((Int × ByteArray × Int) ⊕ (Bool)) :=
  cond (decide (x200 < ((p0).length : Int))) ((lAt p0 x200).bind fun y280 => cond (y280.Kind == 0) ((F_wire_Reader_Num (⟨x201, x202⟩ : T_wire_Reader)).bind fun y321 => cond (y321.1 != y280.U) (F_retracelaw03_WireBack_J2 x200 true y321.2.s y321.2.e) (cond (y280.Kind == 1) (none) (cond (y280.Kind == 2) (none) (cond (y280.Kind == 3) (none) (cond (y280.Kind == 4) (none) (cond (y280.Kind == 5) (none) (F_retracelaw03_WireBack_J2 x200 false y321.2.s y321.2.e))))))) (cond (y280.Kind == 1) ((F_wire_Reader_Int (⟨x201, x202⟩ : T_wire_Reader)).bind fun y329 => cond (y329.1 != y280.N) (F_retracelaw03_WireBack_J2 x200 true y329.2.s y329.2.e) (cond (y280.Kind == 2) (none) (cond (y280.Kind == 3) (none) (cond (y280.Kind == 4) (none) (cond (y280.Kind == 5) (none) (F_retracelaw03_WireBack_J2 x200 false y329.2.s y329.2.e)))))) (cond (y280.Kind == 2) ((F_wire_Reader_Bool (⟨x201, x202⟩ : T_wire_Reader)).bind fun y336 => cond (!(y336.1 == y280.B)) (F_retracelaw03_WireBack_J2 x200 true y336.2.s y336.2.e) (cond (y280.Kind == 3) (none) (cond (y280.Kind == 4) (none) (cond (y280.Kind == 5) (none) (F_retracelaw03_WireBack_J2 x200 false y336.2.s y336.2.e))))) (cond (y280.Kind == 3) ((F_wire_Reader_Text (y280.S.size : Int) (⟨x201, x202⟩ : T_wire_Reader)).bind fun y342 => cond (!(y342.1.toList == y280.S.toList)) (F_retracelaw03_WireBack_J2 x200 true y342.2.s y342.2.e) (cond (y280.Kind == 4) (none) (cond (y280.Kind == 5) (none) (F_retracelaw03_WireBack_J2 x200 false y342.2.s y342.2.e)))) (cond (y280.Kind == 4) ((F_wire_Reader_Raw (y280.S.size : Int) (⟨x201, x202⟩ : T_wire_Reader)).bind fun y347 => cond (!(y347.1.toList == y280.S.toList)) (F_retracelaw03_WireBack_J2 x200 true y347.2.s y347.2.e) (cond (y280.Kind == 5) (none) (F_retracelaw03_WireBack_J2 x200 false y347.2.s y347.2.e))) (cond (y280.Kind == 5) ((F_wire_Reader_Ints ((y280.L).length : Int) (⟨x201, x202⟩ : T_wire_Reader)).bind fun y351 => (F_retraceref03_Same y280.L y351.1).bind fun y352 => F_retracelaw03_WireBack_J2 x200 (!y352) y351.2.s y351.2.e) (F_retracelaw03_WireBack_J2 x200 false x201 x202))))))) (((F_wire_Reader_Left (⟨x201, x202⟩ : T_wire_Reader)).bind fun y361 => cond (y361 == (p1.size : Int)) ((F_wire_Reader_Err (⟨x201, x202⟩ : T_wire_Reader)).bind fun y363 => cond (y363 == 0) ((F_retracelaw03_live).bind fun y365 => F_retracelaw03_WireBack_J3 y365) (F_retracelaw03_WireBack_J3 false)) (F_retracelaw03_WireBack_J3 false)).map Sum.inr)
noncomputable def F_retracelaw03_WireBack_L5 (p0 : (List T_retracelaw03_Part)) (p1 : ByteArray) (x27 : Int) (x28 : (List Int)) : Option ((Int × (List Int)) ⊕ (Bool)) :=
  cond (decide (x27 < ((p0).length : Int))) ((lAt p0 x27).bind fun y35 => (F_retracelaw03_write y35 (⟨x28⟩ : T_wire_Writer)).bind fun y36 => some (.inl ((w64 (x27 + 1)), y36.2.s))) (((F_wire_Writer_Bytes (⟨x28⟩ : T_wire_Writer)).bind fun y42 => grd (y42.size + p1.size ≤ 9223372036854775807) <| (F_wire_Open (y42 ++ p1)).bind fun y44 => Loop (fun s : (Int × ByteArray × Int) => F_retracelaw03_WireBack_L4 p0 p1 s.1 s.2.1 s.2.2) (0, y44.s, y44.e)).map Sum.inr)
noncomputable def F_retracelaw03_WireBack_J1 (p0 : (List T_retracelaw03_Part)) (p1 : ByteArray) (x11 : Bool) : Option (Bool) :=
  cond x11 ((F_retracelaw03_live).bind fun y14 => some y14) (Loop (fun s : (Int × (List Int)) => F_retracelaw03_WireBack_L5 p0 p1 s.1 s.2) (0, ([] : (List Int))))
noncomputable def F_retracelaw03_WireBack (p0 : (List T_retracelaw03_Part)) (p1 : ByteArray) : Option (Bool) :=
  (F_retracelaw03_long p0).bind fun y366 => cond y366 (F_retracelaw03_WireBack_J1 p0 p1 true) (F_retracelaw03_WireBack_J1 p0 p1 (decide (200 < (p1.size : Int))))

theorem mixedOrd : Try.prog.follows .mixedOrders = true := by kernel_rfl
end Go.Ab
