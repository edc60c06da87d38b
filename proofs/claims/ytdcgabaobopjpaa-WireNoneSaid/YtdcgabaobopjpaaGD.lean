import Derived.Test.YtdcgabaobopjpaaAbLib
import Derived.Test.YtdcgabaobopjpaaProg
namespace Go.Ab
open Go.Proofs
set_option linter.unusedVariables false
structure T_retracelaw03_Part where
  Kind : Int
  U : Int
  N : Int
  B : Bool
  S : ByteArray
  L : (List Int)
abbrev T_retracelaw03_Part.enc (x : T_retracelaw03_Part) : List D := [.int .i64 x.Kind, .int .u64 x.U, .int .i64 x.N, .bool x.B, .str x.S, .list false (x.L).length (encL (eInt .i64) x.L)]
theorem T_retracelaw03_Part.enc_len (x : T_retracelaw03_Part) : (T_retracelaw03_Part.enc x).length = 6 := rfl
abbrev T_retracelaw03_Part.pvs (x : T_retracelaw03_Part) : List PV := [i64 x.Kind, u64 x.U, i64 x.N, bo x.B, sv x.S, lv (eInt .i64) x.L]
structure T_wire_Writer where
  s : (List Int)
abbrev T_wire_Writer.enc (x : T_wire_Writer) : List D := [.list false (x.s).length (encL (eInt .u8) x.s)]
theorem T_wire_Writer.enc_len (x : T_wire_Writer) : (T_wire_Writer.enc x).length = 1 := rfl
abbrev T_wire_Writer.pvs (x : T_wire_Writer) : List PV := [lv (eInt .u8) x.s]
structure T_wire_Reader where
  s : ByteArray
  e : Int
abbrev T_wire_Reader.enc (x : T_wire_Reader) : List D := [.str x.s, .int .i64 x.e]
theorem T_wire_Reader.enc_len (x : T_wire_Reader) : (T_wire_Reader.enc x).length = 2 := rfl
abbrev T_wire_Reader.pvs (x : T_wire_Reader) : List PV := [sv x.s, i64 x.e]
structure T_retraceref03_Reader where
  S : ByteArray
  Bad : Int
abbrev T_retraceref03_Reader.enc (x : T_retraceref03_Reader) : List D := [.str x.S, .int .i64 x.Bad]
theorem T_retraceref03_Reader.enc_len (x : T_retraceref03_Reader) : (T_retraceref03_Reader.enc x).length = 2 := rfl
abbrev T_retraceref03_Reader.pvs (x : T_retraceref03_Reader) : List PV := [sv x.S, i64 x.Bad]
structure T_retraceref01_Got where
  U : Int
  Next : Int
  E : Int
abbrev T_retraceref01_Got.enc (x : T_retraceref01_Got) : List D := [.int .u64 x.U, .int .i64 x.Next, .int .i64 x.E]
theorem T_retraceref01_Got.enc_len (x : T_retraceref01_Got) : (T_retraceref01_Got.enc x).length = 3 := rfl
abbrev T_retraceref01_Got.pvs (x : T_retraceref01_Got) : List PV := [u64 x.U, i64 x.Next, i64 x.E]
structure T_api_Frame where
  Kind : Int
  Data : ByteArray
abbrev T_api_Frame.enc (x : T_api_Frame) : List D := [.int .i64 x.Kind, .str x.Data]
theorem T_api_Frame.enc_len (x : T_api_Frame) : (T_api_Frame.enc x).length = 2 := rfl
abbrev T_api_Frame.pvs (x : T_api_Frame) : List PV := [i64 x.Kind, sv x.Data]
structure T_retraceref04_Got where
  F : T_api_Frame
  Next : Int
  E : Int
abbrev T_retraceref04_Got.enc (x : T_retraceref04_Got) : List D := [.int .i64 x.F.Kind, .str x.F.Data, .int .i64 x.Next, .int .i64 x.E]
theorem T_retraceref04_Got.enc_len (x : T_retraceref04_Got) : (T_retraceref04_Got.enc x).length = 4 := rfl
abbrev T_retraceref04_Got.pvs (x : T_retraceref04_Got) : List PV := [i64 x.F.Kind, sv x.F.Data, i64 x.Next, i64 x.E]
structure T_retraceref04_List where
  L : (List T_api_Frame)
  At : Int
  E : Int
abbrev T_retraceref04_List.enc (x : T_retraceref04_List) : List D := [.list false (x.L).length (encL T_api_Frame.enc x.L), .int .i64 x.At, .int .i64 x.E]
theorem T_retraceref04_List.enc_len (x : T_retraceref04_List) : (T_retraceref04_List.enc x).length = 3 := rfl
abbrev T_retraceref04_List.pvs (x : T_retraceref04_List) : List PV := [lv T_api_Frame.enc x.L, i64 x.At, i64 x.E]
noncomputable def as_frame_All_0 : Code := cAt [1, 1, 1, 0, 1, 0, 0] (bOf Try.f36)
noncomputable def bd_frame_All_0 : Code := cAt [1, 1, 1, 0, 1, 0, 1] (bOf Try.f36)
noncomputable def as_retracelaw04_FrameAll_0 : Code := cAt [1, 1, 1, 1, 1, 1, 1, 1, 1, 0, 1, 0, 0] (bOf Try.f10)
noncomputable def bd_retracelaw04_FrameAll_0 : Code := cAt [1, 1, 1, 1, 1, 1, 1, 1, 1, 0, 1, 0, 1] (bOf Try.f10)
/- retracelaw03_long -/
noncomputable def F_retracelaw03_long_J2 (x32 : Int) (x53 : Bool) : Option ((Int) ⊕ (Bool)) :=
  cond x53 ((some true).map Sum.inr) (some (.inl (w64 (x32 + 1))))
noncomputable def F_retracelaw03_long_J1 (p0 : (List T_retracelaw03_Part)) (x32 : Int) (x40 : Bool) : Option ((Int) ⊕ (Bool)) :=
  cond x40 ((lAt p0 x32).bind fun y57 => cond (decide (200 < (y57.S.size : Int))) (F_retracelaw03_long_J2 x32 true) ((lAt p0 x32).bind fun y59 => F_retracelaw03_long_J2 x32 (decide (60 < ((y59.L).length : Int))))) ((some (decide (40 < ((p0).length : Int)))).map Sum.inr)
noncomputable def F_retracelaw03_long_L3 (p0 : (List T_retracelaw03_Part)) (x32 : Int) : Option ((Int) ⊕ (Bool)) :=
  cond (decide (x32 < ((p0).length : Int))) (F_retracelaw03_long_J1 p0 x32 (decide (x32 < 40))) (F_retracelaw03_long_J1 p0 x32 false)
noncomputable def F_retracelaw03_long (p0 : (List T_retracelaw03_Part)) : Option (Bool) :=
  Loop (fun s : (Int) => F_retracelaw03_long_L3 p0 s) 0
/- vint_Zig -/
noncomputable def F_vint_Zig (p0 : Int) : Option (Int) :=
  some (bits .xor .u64 (wu64 ((wu64 p0) * 2)) (wu64 (Int.fdiv p0 9223372036854775808)))
/- vint_Size -/
noncomputable def F_vint_Size_L1 (x9 : Int) (x10 : Int) : Option ((Int × Int) ⊕ (Int)) :=
  cond (decide (128 ≤ x9)) (some (.inl ((Int.fdiv x9 128), (w64 (x10 + 1))))) ((some x10).map Sum.inr)
noncomputable def F_vint_Size (p0 : Int) : Option (Int) :=
  Loop (fun s : (Int × Int) => F_vint_Size_L1 s.1 s.2) (p0, 1)
/- vint_Put -/
noncomputable def F_vint_Put_L1 (x17 : Int) (x18 : (List Int)) : Option ((Int × (List Int)) ⊕ (ByteArray)) :=
  cond (decide (128 ≤ x17)) (grd (((x18).length + ([(bits .or .u8 (wu8 x17) 128)]).length) * 1 ≤ 140737488355328) <| some (.inl ((Int.fdiv x17 128), (x18 ++ [(bits .or .u8 (wu8 x17) 128)])))) ((grd (((x18).length + ([(wu8 x17)]).length) * 1 ≤ 140737488355328) <| some (strOfNums (x18 ++ [(wu8 x17)]))).map Sum.inr)
noncomputable def F_vint_Put (p0 : ByteArray) (p1 : Int) : Option (ByteArray) :=
  (F_vint_Size p1).bind fun y3 => grd ((0 : Int) ≤ 0 ∧ 0 ≤ (w64 ((p0.size : Int) + y3)) ∧ (w64 ((p0.size : Int) + y3)) ≤ 281474976710656 ∧ (1 : Int) * (w64 ((p0.size : Int) + y3)) ≤ 281474976710656) <| grd (((([] : List Int)).length + p0.size) * 1 ≤ 140737488355328) <| Loop (fun s : (Int × (List Int)) => F_vint_Put_L1 s.1 s.2) (p1, (([] : List Int) ++ (sB p0)))
/- vint_PutInt -/
noncomputable def F_vint_PutInt (p0 : ByteArray) (p1 : Int) : Option (ByteArray) :=
  (F_vint_Zig p1).bind fun y3 => (F_vint_Put p0 y3).bind fun y4 => some y4
/- wire_Writer_add -/
noncomputable def F_wire_Writer_add (p1 : ByteArray) (o0 : T_wire_Writer) : Option (T_wire_Writer) :=
  grd (((o0.s).length + p1.size) * 1 ≤ 140737488355328) <| some (⟨(o0.s ++ (sB p1))⟩ : T_wire_Writer)
/- wire_Writer_Int -/
noncomputable def F_wire_Writer_Int (p1 : Int) (o0 : T_wire_Writer) : Option (T_wire_Writer) :=
  (F_vint_PutInt (⟨#[]⟩ : ByteArray) p1).bind fun y1 => (F_wire_Writer_add y1 o0).bind fun y2 => some y2
/- wire_Writer_Num -/
noncomputable def F_wire_Writer_Num (p1 : Int) (o0 : T_wire_Writer) : Option (T_wire_Writer) :=
  (F_vint_Put (⟨#[]⟩ : ByteArray) p1).bind fun y1 => (F_wire_Writer_add y1 o0).bind fun y2 => some y2
/- wire_Writer_Text -/
noncomputable def F_wire_Writer_Text (p1 : ByteArray) (o0 : T_wire_Writer) : Option (T_wire_Writer) :=
  (F_wire_Writer_Num (wu64 (p1.size : Int)) o0).bind fun y2 => (F_wire_Writer_add p1 y2).bind fun y3 => some y3
/- wire_Writer_Bool -/
noncomputable def F_wire_Writer_Bool (p1 : Bool) (o0 : T_wire_Writer) : Option (T_wire_Writer) :=
  cond p1 ((F_wire_Writer_add (⟨#[1]⟩ : ByteArray) o0).bind fun y2 => some y2) ((F_wire_Writer_add (⟨#[0]⟩ : ByteArray) o0).bind fun y3 => some y3)
/- wire_Writer_Bytes -/
noncomputable def F_wire_Writer_Bytes (o0 : T_wire_Writer) : Option (ByteArray) :=
  some (strOfNums o0.s)
/- wire_Open -/
noncomputable def F_wire_Open (p0 : ByteArray) : Option (T_wire_Reader) :=
  some (⟨p0, 0⟩ : T_wire_Reader)
/- vint_Get -/
noncomputable def F_vint_Get_J2 (x90 : Int) : Option (Int × Int × Int) :=
  some (0, 0, x90)
noncomputable def F_vint_Get_J3 (p1 : Int) (x95 : Int) (x96 : Int) (y135 : Int) (x156 : Bool) : Option ((Int × Int) ⊕ (Int × Int × Int)) :=
  cond x156 ((F_vint_Get_J2 3).map Sum.inr) (cond (decide (y135 < 128)) (grd ((0 : Int) ≤ (w64 (7 * x96))) <| (some ((bits .or .u64 x95 (wu64 ((wu64 y135) * 2 ^ (min (Int.toNat (w64 (7 * x96))) 64)))), (w64 ((w64 (p1 + x96)) + 1)), 0)).map Sum.inr) (grd ((0 : Int) ≤ (w64 (7 * x96))) <| some (.inl ((bits .or .u64 x95 (wu64 ((wu64 (bits .and .u8 y135 127)) * 2 ^ (min (Int.toNat (w64 (7 * x96))) 64)))), (w64 (x96 + 1))))))
noncomputable def F_vint_Get_J4 (p1 : Int) (x95 : Int) (x96 : Int) (y135 : Int) (x167 : Bool) : Option ((Int × Int) ⊕ (Int × Int × Int)) :=
  cond x167 (F_vint_Get_J3 p1 x95 x96 y135 x167) (cond (decide (0 < x96)) (F_vint_Get_J3 p1 x95 x96 y135 (y135 == 0)) (F_vint_Get_J3 p1 x95 x96 y135 false))
noncomputable def F_vint_Get_L5 (p0 : ByteArray) (p1 : Int) (x95 : Int) (x96 : Int) : Option ((Int × Int) ⊕ (Int × Int × Int)) :=
  cond (decide (x96 < (((sB (p0.extract (Int.toNat p1) (Int.toNat (p0.size : Int))))).length : Int))) ((lAt (sB (p0.extract (Int.toNat p1) (Int.toNat (p0.size : Int)))) x96).bind fun y135 => cond (x96 == 9) (F_vint_Get_J4 p1 x95 x96 y135 (decide (1 < y135))) (F_vint_Get_J4 p1 x95 x96 y135 false)) ((F_vint_Get_J2 2).map Sum.inr)
noncomputable def F_vint_Get_J1 (p0 : ByteArray) (p1 : Int) (x6 : Bool) : Option (Int × Int × Int) :=
  cond x6 (some (0, 0, 1)) (grd ((0 : Int) ≤ p1 ∧ p1 ≤ (p0.size : Int) ∧ (p0.size : Int) ≤ (p0.size : Int)) <| grd ((p0.extract (Int.toNat p1) (Int.toNat (p0.size : Int))).size ≤ 281474976710656) <| Loop (fun s : (Int × Int) => F_vint_Get_L5 p0 p1 s.1 s.2) (0, 0))
noncomputable def F_vint_Get (p0 : ByteArray) (p1 : Int) : Option (Int × Int × Int) :=
  cond (decide (p1 < 0)) (F_vint_Get_J1 p0 p1 true) (F_vint_Get_J1 p0 p1 (decide ((p0.size : Int) < p1)))
/- vint_Zag -/
noncomputable def F_vint_Zag (p0 : Int) : Option (Int) :=
  some (bits .xor .i64 (w64 (Int.fdiv p0 2)) (w64 (0 - (w64 (bits .and .u64 p0 1)))))
/- vint_GetInt -/
noncomputable def F_vint_GetInt (p0 : ByteArray) (p1 : Int) : Option (Int × Int × Int) :=
  (F_vint_Get p0 p1).bind fun y2 => (F_vint_Zag y2.1).bind fun y4 => some (y4, y2.2.1, y2.2.2)
/- wire_Reader_Int_1 -/
noncomputable def F_wire_Reader_Int_1 (p0 : ByteArray) (o0_0 : Int) : Option (Int × Int × Int) :=
  (F_vint_GetInt p0 0).bind fun y2 => some (y2.2.1, y2.2.2, y2.1)
/- wire_Reader_step -/
noncomputable def F_wire_Reader_step (o0 : T_wire_Reader) (o1_0 : Int) : Option (Bool × T_wire_Reader × Int) :=
  cond (o0.e != 0) (some (false, o0, o1_0)) ((F_wire_Reader_Int_1 o0.s o1_0).bind fun y4 => cond (y4.2.1 != 0) (some (false, (⟨o0.s, y4.2.1⟩ : T_wire_Reader), y4.2.2)) (grd ((0 : Int) ≤ y4.1 ∧ y4.1 ≤ (o0.s.size : Int) ∧ (o0.s.size : Int) ≤ (o0.s.size : Int)) <| some (true, (⟨(o0.s.extract (Int.toNat y4.1) (Int.toNat (o0.s.size : Int))), o0.e⟩ : T_wire_Reader), y4.2.2)))
/- wire_Reader_Int -/
noncomputable def F_wire_Reader_Int (o0 : T_wire_Reader) : Option (Int × T_wire_Reader) :=
  (F_wire_Reader_step o0 0).bind fun y2 => some (y2.2.2, y2.2.1)
/- wire_Reader_Upto_1 -/
noncomputable def F_wire_Reader_Upto_1_J1 (y2 : Int × Int × Int) (x11 : Bool) : Option (Int × Int × Int) :=
  cond x11 (some (0, 6, y2.1)) (some (y2.2.1, y2.2.2, y2.1))
noncomputable def F_wire_Reader_Upto_1 (p0 : ByteArray) (o0_0 : Int) (o1_0 : Int) : Option (Int × Int × Int) :=
  (F_vint_Get p0 0).bind fun y2 => cond (y2.2.2 == 0) (cond (decide (o1_0 < 0)) (F_wire_Reader_Upto_1_J1 y2 true) (F_wire_Reader_Upto_1_J1 y2 (decide ((wu64 o1_0) < y2.1)))) (F_wire_Reader_Upto_1_J1 y2 false)
/- wire_Reader_step_v2 -/
noncomputable def F_wire_Reader_step_v2 (o0 : T_wire_Reader) (o1_0 : Int) (o2_0 : Int) : Option (Bool × T_wire_Reader × Int) :=
  cond (o0.e != 0) (some (false, o0, o1_0)) ((F_wire_Reader_Upto_1 o0.s o1_0 o2_0).bind fun y4 => cond (y4.2.1 != 0) (some (false, (⟨o0.s, y4.2.1⟩ : T_wire_Reader), y4.2.2)) (grd ((0 : Int) ≤ y4.1 ∧ y4.1 ≤ (o0.s.size : Int) ∧ (o0.s.size : Int) ≤ (o0.s.size : Int)) <| some (true, (⟨(o0.s.extract (Int.toNat y4.1) (Int.toNat (o0.s.size : Int))), o0.e⟩ : T_wire_Reader), y4.2.2)))
/- wire_Reader_Upto -/
noncomputable def F_wire_Reader_Upto (p1 : Int) (o0 : T_wire_Reader) : Option (Int × T_wire_Reader) :=
  (F_wire_Reader_step_v2 o0 0 p1).bind fun y2 => cond (!y2.1) (some (0, y2.2.1)) (some ((w64 y2.2.2), y2.2.1))
/- wire_Reader_Raw_1 -/
noncomputable def F_wire_Reader_Raw_1 (p0 : ByteArray) (o0_0 : Int) (o1_0 : ByteArray) : Option (Int × Int × ByteArray) :=
  cond (decide (o0_0 < 0)) (some (0, 1, o1_0)) (cond (decide ((p0.size : Int) < o0_0)) (some (0, 2, o1_0)) (grd ((0 : Int) ≤ 0 ∧ 0 ≤ o0_0 ∧ o0_0 ≤ (p0.size : Int)) <| some (o0_0, 0, (p0.extract (Int.toNat 0) (Int.toNat o0_0)))))
/- wire_Reader_step_v3 -/
noncomputable def F_wire_Reader_step_v3 (o0 : T_wire_Reader) (o1_0 : Int) (o2_0 : ByteArray) : Option (Bool × T_wire_Reader × ByteArray) :=
  cond (o0.e != 0) (some (false, o0, o2_0)) ((F_wire_Reader_Raw_1 o0.s o1_0 o2_0).bind fun y4 => cond (y4.2.1 != 0) (some (false, (⟨o0.s, y4.2.1⟩ : T_wire_Reader), y4.2.2)) (grd ((0 : Int) ≤ y4.1 ∧ y4.1 ≤ (o0.s.size : Int) ∧ (o0.s.size : Int) ≤ (o0.s.size : Int)) <| some (true, (⟨(o0.s.extract (Int.toNat y4.1) (Int.toNat (o0.s.size : Int))), o0.e⟩ : T_wire_Reader), y4.2.2)))
/- wire_Reader_Raw -/
noncomputable def F_wire_Reader_Raw (p1 : Int) (o0 : T_wire_Reader) : Option (ByteArray × T_wire_Reader) :=
  (F_wire_Reader_step_v3 o0 p1 (⟨#[]⟩ : ByteArray)).bind fun y2 => some (y2.2.2, y2.2.1)
/- wire_Reader_Text -/
noncomputable def F_wire_Reader_Text (p1 : Int) (o0 : T_wire_Reader) : Option (ByteArray × T_wire_Reader) :=
  (F_wire_Reader_Upto p1 o0).bind fun y3 => (F_wire_Reader_Raw y3.1 y3.2).bind fun y4 => some (y4.1, y4.2)
/- wire_Reader_Bool_1 -/
noncomputable def F_wire_Reader_Bool_1 (p0 : ByteArray) (o0_0 : Int) : Option (Int × Int × Int) :=
  cond (p0.toList == (⟨#[]⟩ : ByteArray).toList) (some (0, 2, o0_0)) ((sAt p0 0).bind fun y7 => cond (decide (1 < y7)) (some (0, 3, y7)) (some (1, 0, y7)))
/- wire_Reader_step_v4 -/
noncomputable def F_wire_Reader_step_v4 (o0 : T_wire_Reader) (o1_0 : Int) : Option (Bool × T_wire_Reader × Int) :=
  cond (o0.e != 0) (some (false, o0, o1_0)) ((F_wire_Reader_Bool_1 o0.s o1_0).bind fun y4 => cond (y4.2.1 != 0) (some (false, (⟨o0.s, y4.2.1⟩ : T_wire_Reader), y4.2.2)) (grd ((0 : Int) ≤ y4.1 ∧ y4.1 ≤ (o0.s.size : Int) ∧ (o0.s.size : Int) ≤ (o0.s.size : Int)) <| some (true, (⟨(o0.s.extract (Int.toNat y4.1) (Int.toNat (o0.s.size : Int))), o0.e⟩ : T_wire_Reader), y4.2.2)))
/- wire_Reader_Bool -/
noncomputable def F_wire_Reader_Bool_J1 (y2 : Bool × T_wire_Reader × Int) (x4 : Bool) : Option (Bool × T_wire_Reader) :=
  some (x4, y2.2.1)
noncomputable def F_wire_Reader_Bool (o0 : T_wire_Reader) : Option (Bool × T_wire_Reader) :=
  (F_wire_Reader_step_v4 o0 0).bind fun y2 => cond y2.1 (F_wire_Reader_Bool_J1 y2 (y2.2.2 == 1)) (F_wire_Reader_Bool_J1 y2 false)
/- wire_Reader_Err -/
noncomputable def F_wire_Reader_Err (o0 : T_wire_Reader) : Option (Int) :=
  some o0.e
/- wire_Reader_Left -/
noncomputable def F_wire_Reader_Left (o0 : T_wire_Reader) : Option (Int) :=
  some (o0.s.size : Int)
/- wire_Reader_End -/
noncomputable def F_wire_Reader_End_J1 (y10 : Int) (x13 : Bool) : Option (Int) :=
  cond x13 (some y10) (some 3)
noncomputable def F_wire_Reader_End (o0 : T_wire_Reader) : Option (Int) :=
  (F_wire_Reader_Err o0).bind fun y10 => cond (y10 != 0) (F_wire_Reader_End_J1 y10 true) ((F_wire_Reader_Left o0).bind fun y16 => F_wire_Reader_End_J1 y10 (y16 == 0))
/- retracelaw03_live -/
noncomputable def F_retracelaw03_live_J1 (x20 : Bool) : Option (Bool) :=
  some x20
noncomputable def F_retracelaw03_live  : Option (Bool) :=
  (F_wire_Writer_Int (-1) (⟨([] : List Int)⟩ : T_wire_Writer)).bind fun y2 => (F_wire_Writer_Text (⟨#[97, 98]⟩ : ByteArray) y2).bind fun y4 => (F_wire_Writer_Bool true y4).bind fun y6 => (F_wire_Writer_Bytes y6).bind fun y9 => (F_wire_Open y9).bind fun y10 => (F_wire_Writer_Bytes y6).bind fun y21 => cond (y21.toList == (⟨#[1, 2, 97, 98, 1]⟩ : ByteArray).toList) ((F_wire_Reader_Int y10).bind fun y23 => cond (y23.1 == (-1)) ((F_wire_Reader_Text 2 y23.2).bind fun y25 => cond (y25.1.toList == (⟨#[97, 98]⟩ : ByteArray).toList) ((F_wire_Reader_Bool y25.2).bind fun y27 => cond y27.1 ((F_wire_Reader_End y27.2).bind fun y29 => F_retracelaw03_live_J1 (y29 == 0)) (F_retracelaw03_live_J1 false)) (F_retracelaw03_live_J1 false)) (F_retracelaw03_live_J1 false)) (F_retracelaw03_live_J1 false)
/- retraceref01_Num -/
noncomputable def F_retraceref01_Num_B (self : Int → Option (ByteArray)) (p0 : Int) : Option (ByteArray) :=
  cond (decide (p0 < 128)) (some (strOfNums ([(wu8 p0)]))) ((self (wu64 (Int.tdiv p0 128))).bind fun y5 => grd ((strOfNums ([(wu8 ((wu8 (Int.tmod p0 128)) + 128))])).size + y5.size ≤ 9223372036854775807) <| some ((strOfNums ([(wu8 ((wu8 (Int.tmod p0 128)) + 128))])) ++ y5))
noncomputable def F_retraceref01_Num_N : Nat → Int → Option (ByteArray)
  | 0 => fun _ => none
  | n + 1 => F_retraceref01_Num_B (F_retraceref01_Num_N n)
noncomputable def F_retraceref01_Num (p0 : Int) : Option (ByteArray) :=
  lim fun n => F_retraceref01_Num_N n p0
/- retraceref01_Zig -/
noncomputable def F_retraceref01_Zig (p0 : Int) : Option (Int) :=
  cond (decide (p0 < 0)) (some (wu64 ((wu64 ((wu64 (w64 (0 - (w64 (p0 + 1))))) * 2)) + 1))) (some (wu64 ((wu64 p0) * 2)))
/- retraceref03_Int -/
noncomputable def F_retraceref03_Int (p0 : Int) : Option (ByteArray) :=
  (F_retraceref01_Zig p0).bind fun y3 => (F_retraceref01_Num y3).bind fun y4 => some y4
/- retraceref03_Bool -/
noncomputable def F_retraceref03_Bool (p0 : Bool) : Option (ByteArray) :=
  cond p0 (some (⟨#[1]⟩ : ByteArray)) (some (⟨#[0]⟩ : ByteArray))
/- retraceref03_Text -/
noncomputable def F_retraceref03_Text (p0 : ByteArray) : Option (ByteArray) :=
  (F_retraceref01_Num (wu64 (p0.size : Int))).bind fun y3 => grd (y3.size + p0.size ≤ 9223372036854775807) <| some (y3 ++ p0)
/- wire_Writer_Raw -/
noncomputable def F_wire_Writer_Raw (p1 : ByteArray) (o0 : T_wire_Writer) : Option (T_wire_Writer) :=
  (F_wire_Writer_add p1 o0).bind fun y1 => some y1
/- wire_Writer_Ints -/
noncomputable def F_wire_Writer_Ints_L1 (p1 : (List Int)) (x3 : Int) (x4 : (List Int)) : Option ((Int × (List Int)) ⊕ (T_wire_Writer)) :=
  cond (decide (x3 < ((p1).length : Int))) ((lAt p1 x3).bind fun y13 => (F_wire_Writer_Int y13 (⟨x4⟩ : T_wire_Writer)).bind fun y14 => some (.inl ((w64 (x3 + 1)), y14.s))) ((some (⟨x4⟩ : T_wire_Writer)).map Sum.inr)
noncomputable def F_wire_Writer_Ints (p1 : (List Int)) (o0 : T_wire_Writer) : Option (T_wire_Writer) :=
  (F_wire_Writer_Num (wu64 ((p1).length : Int)) o0).bind fun y2 => Loop (fun s : (Int × (List Int)) => F_wire_Writer_Ints_L1 p1 s.1 s.2) (0, y2.s)
/- retraceref03_Ints -/
noncomputable def F_retraceref03_Ints_L1 (p0 : (List Int)) (x17 : ByteArray) (x18 : Int) : Option ((ByteArray × Int) ⊕ (ByteArray)) :=
  cond (decide (x18 < ((p0).length : Int))) ((lAt p0 x18).bind fun y26 => (F_retraceref03_Int y26).bind fun y27 => grd (x17.size + y27.size ≤ 9223372036854775807) <| some (.inl ((x17 ++ y27), (w64 (x18 + 1))))) ((some x17).map Sum.inr)
noncomputable def F_retraceref03_Ints (p0 : (List Int)) : Option (ByteArray) :=
  (F_retraceref01_Num (wu64 ((p0).length : Int))).bind fun y2 => Loop (fun s : (ByteArray × Int) => F_retraceref03_Ints_L1 p0 s.1 s.2) (y2, 0)
/- retracelaw03_write -/
noncomputable def F_retracelaw03_write (p1 : T_retracelaw03_Part) (o0 : T_wire_Writer) : Option (ByteArray × T_wire_Writer) :=
  cond (p1.Kind == 0) ((F_wire_Writer_Num p1.U o0).bind fun y31 => (F_retraceref01_Num p1.U).bind fun y33 => some (y33, y31)) (cond (p1.Kind == 1) ((F_wire_Writer_Int p1.N o0).bind fun y36 => (F_retraceref03_Int p1.N).bind fun y38 => some (y38, y36)) (cond (p1.Kind == 2) ((F_wire_Writer_Bool p1.B o0).bind fun y41 => (F_retraceref03_Bool p1.B).bind fun y43 => some (y43, y41)) (cond (p1.Kind == 3) ((F_wire_Writer_Text p1.S o0).bind fun y46 => (F_retraceref03_Text p1.S).bind fun y48 => some (y48, y46)) (cond (p1.Kind == 4) ((F_wire_Writer_Raw p1.S o0).bind fun y51 => some (p1.S, y51)) (cond (p1.Kind == 5) ((F_wire_Writer_Ints p1.L o0).bind fun y54 => (F_retraceref03_Ints p1.L).bind fun y56 => some (y56, y54)) (some ((⟨#[]⟩ : ByteArray), o0)))))))
/- wire_Writer_add_v2 -/
noncomputable def F_wire_Writer_add_v2 (p1 : ByteArray) : Option (Unit) :=
  some ()
/- wire_Writer_Num_v2 -/
noncomputable def F_wire_Writer_Num_v2 (p1 : Int) : Option (Unit) :=
  (F_vint_Put (⟨#[]⟩ : ByteArray) p1).bind fun y1 => (F_wire_Writer_add_v2 y1).bind fun y2 => some ()
/- wire_Writer_Int_v2 -/
noncomputable def F_wire_Writer_Int_v2 (p1 : Int) : Option (Unit) :=
  (F_vint_PutInt (⟨#[]⟩ : ByteArray) p1).bind fun y1 => (F_wire_Writer_add_v2 y1).bind fun y2 => some ()
/- wire_Writer_Bool_v2 -/
noncomputable def F_wire_Writer_Bool_v2 (p1 : Bool) : Option (Unit) :=
  cond p1 ((F_wire_Writer_add_v2 (⟨#[1]⟩ : ByteArray)).bind fun y2 => some ()) ((F_wire_Writer_add_v2 (⟨#[0]⟩ : ByteArray)).bind fun y3 => some ())
/- wire_Writer_Text_v2 -/
noncomputable def F_wire_Writer_Text_v2 (p1 : ByteArray) : Option (Unit) :=
  (F_wire_Writer_Num_v2 (wu64 (p1.size : Int))).bind fun y2 => (F_wire_Writer_add_v2 p1).bind fun y3 => some ()
/- wire_Writer_Raw_v2 -/
noncomputable def F_wire_Writer_Raw_v2 (p1 : ByteArray) : Option (Unit) :=
  (F_wire_Writer_add_v2 p1).bind fun y1 => some ()
/- wire_Writer_Ints_v2 -/
noncomputable def F_wire_Writer_Ints_v2_L1 (p1 : (List Int)) (x3 : Int) : Option ((Int) ⊕ (Unit)) :=
  cond (decide (x3 < ((p1).length : Int))) ((lAt p1 x3).bind fun y12 => (F_wire_Writer_Int_v2 y12).bind fun y13 => some (.inl (w64 (x3 + 1)))) ((some ()).map Sum.inr)
noncomputable def F_wire_Writer_Ints_v2 (p1 : (List Int)) : Option (Unit) :=
  (F_wire_Writer_Num_v2 (wu64 ((p1).length : Int))).bind fun y2 => Loop (fun s : (Int) => F_wire_Writer_Ints_v2_L1 p1 s) 0
/- retracelaw03_write_v2 -/
noncomputable def F_retracelaw03_write_v2 (p1 : T_retracelaw03_Part) : Option (ByteArray) :=
  cond (p1.Kind == 0) ((F_wire_Writer_Num_v2 p1.U).bind fun y31 => (F_retraceref01_Num p1.U).bind fun y33 => some y33) (cond (p1.Kind == 1) ((F_wire_Writer_Int_v2 p1.N).bind fun y36 => (F_retraceref03_Int p1.N).bind fun y38 => some y38) (cond (p1.Kind == 2) ((F_wire_Writer_Bool_v2 p1.B).bind fun y41 => (F_retraceref03_Bool p1.B).bind fun y43 => some y43) (cond (p1.Kind == 3) ((F_wire_Writer_Text_v2 p1.S).bind fun y46 => (F_retraceref03_Text p1.S).bind fun y48 => some y48) (cond (p1.Kind == 4) ((F_wire_Writer_Raw_v2 p1.S).bind fun y51 => some p1.S) (cond (p1.Kind == 5) ((F_wire_Writer_Ints_v2 p1.L).bind fun y54 => (F_retraceref03_Ints p1.L).bind fun y56 => some y56) (some (⟨#[]⟩ : ByteArray)))))))
/- wire_Writer_Bytes_v2 -/
noncomputable def F_wire_Writer_Bytes_v2  : Option (ByteArray) :=
  some (⟨#[]⟩ : ByteArray)
/- retracelaw03_WireWrites -/
noncomputable def F_retracelaw03_WireWrites_J1 (x66 : Bool) : Option (Bool) :=
  some x66
noncomputable def F_retracelaw03_WireWrites_L2 (p0 : (List T_retracelaw03_Part)) (x36 : ByteArray) (x37 : Int) (x38 : (List Int)) : Option ((ByteArray × Int × (List Int)) ⊕ (Bool)) :=
  cond (decide (x37 < ((p0).length : Int))) ((lAt p0 x37).bind fun y54 => (F_retracelaw03_write y54 (⟨x38⟩ : T_wire_Writer)).bind fun y55 => grd (x36.size + y55.1.size ≤ 9223372036854775807) <| (lAt p0 x37).bind fun y57 => (F_retracelaw03_write_v2 y57).bind fun y58 => some (.inl ((x36 ++ y55.1), (w64 (x37 + 1)), y55.2.s))) (((F_wire_Writer_Bytes (⟨x38⟩ : T_wire_Writer)).bind fun y67 => cond (y67.toList == x36.toList) ((F_wire_Writer_Bytes_v2).bind fun y69 => cond (y69.toList == (⟨#[]⟩ : ByteArray).toList) ((F_retracelaw03_live).bind fun y71 => F_retracelaw03_WireWrites_J1 y71) (F_retracelaw03_WireWrites_J1 false)) (F_retracelaw03_WireWrites_J1 false)).map Sum.inr)
noncomputable def F_retracelaw03_WireWrites (p0 : (List T_retracelaw03_Part)) : Option (Bool) :=
  (F_retracelaw03_long p0).bind fun y7 => cond y7 ((F_retracelaw03_live).bind fun y10 => some y10) (Loop (fun s : (ByteArray × Int × (List Int)) => F_retracelaw03_WireWrites_L2 p0 s.1 s.2.1 s.2.2) ((⟨#[]⟩ : ByteArray), 0, ([] : (List Int))))
/- wire_Reader_Num_1 -/
noncomputable def F_wire_Reader_Num_1 (p0 : ByteArray) (o0_0 : Int) : Option (Int × Int × Int) :=
  (F_vint_Get p0 0).bind fun y2 => some (y2.2.1, y2.2.2, y2.1)
/- wire_Reader_step_v5 -/
noncomputable def F_wire_Reader_step_v5 (o0 : T_wire_Reader) (o1_0 : Int) : Option (Bool × T_wire_Reader × Int) :=
  cond (o0.e != 0) (some (false, o0, o1_0)) ((F_wire_Reader_Num_1 o0.s o1_0).bind fun y4 => cond (y4.2.1 != 0) (some (false, (⟨o0.s, y4.2.1⟩ : T_wire_Reader), y4.2.2)) (grd ((0 : Int) ≤ y4.1 ∧ y4.1 ≤ (o0.s.size : Int) ∧ (o0.s.size : Int) ≤ (o0.s.size : Int)) <| some (true, (⟨(o0.s.extract (Int.toNat y4.1) (Int.toNat (o0.s.size : Int))), o0.e⟩ : T_wire_Reader), y4.2.2)))
/- wire_Reader_Num -/
noncomputable def F_wire_Reader_Num (o0 : T_wire_Reader) : Option (Int × T_wire_Reader) :=
  (F_wire_Reader_step_v5 o0 0).bind fun y2 => some (y2.2.2, y2.2.1)
/- retraceref01_Get -/
noncomputable def F_retraceref01_Get_J2 (p1 : Int) (x75 : Int) (x76 : Int) (x77 : Int) (y113 : Int) (x128 : Bool) : Option ((Int × Int × Int) ⊕ (T_retraceref01_Got)) :=
  cond x128 ((some (⟨0, 0, 3⟩ : T_retraceref01_Got)).map Sum.inr) (cond (decide (y113 < 128)) ((some (⟨(wu64 (x75 + (wu64 ((wu64 (Int.tmod y113 128)) * x76)))), (w64 ((w64 (p1 + x77)) + 1)), 0⟩ : T_retraceref01_Got)).map Sum.inr) (some (.inl ((wu64 (x75 + (wu64 ((wu64 (Int.tmod y113 128)) * x76)))), (wu64 (x76 * 128)), (w64 (x77 + 1))))))
noncomputable def F_retraceref01_Get_L3 (p0 : ByteArray) (p1 : Int) (x75 : Int) (x76 : Int) (x77 : Int) : Option ((Int × Int × Int) ⊕ (T_retraceref01_Got)) :=
  cond (decide (x77 < 10)) (cond (decide ((p0.size : Int) ≤ (w64 (p1 + x77)))) ((some (⟨0, 0, 2⟩ : T_retraceref01_Got)).map Sum.inr) ((sAt p0 (w64 (p1 + x77))).bind fun y113 => cond (x77 == 9) (cond (decide (1 < y113)) (F_retraceref01_Get_J2 p1 x75 x76 x77 y113 true) (cond (y113 == 0) (F_retraceref01_Get_J2 p1 x75 x76 x77 y113 (decide (0 < x77))) (F_retraceref01_Get_J2 p1 x75 x76 x77 y113 false))) (cond (y113 == 0) (F_retraceref01_Get_J2 p1 x75 x76 x77 y113 (decide (0 < x77))) (F_retraceref01_Get_J2 p1 x75 x76 x77 y113 false)))) ((some (⟨0, 0, 3⟩ : T_retraceref01_Got)).map Sum.inr)
noncomputable def F_retraceref01_Get_J1 (p0 : ByteArray) (p1 : Int) (x6 : Bool) : Option (T_retraceref01_Got) :=
  cond x6 (some (⟨0, 0, 1⟩ : T_retraceref01_Got)) (Loop (fun s : (Int × Int × Int) => F_retraceref01_Get_L3 p0 p1 s.1 s.2.1 s.2.2) (0, 1, 0))
noncomputable def F_retraceref01_Get (p0 : ByteArray) (p1 : Int) : Option (T_retraceref01_Got) :=
  cond (decide (p1 < 0)) (F_retraceref01_Get_J1 p0 p1 true) (F_retraceref01_Get_J1 p0 p1 (decide ((p0.size : Int) < p1)))
/- retraceref03_Reader_fail -/
noncomputable def F_retraceref03_Reader_fail (p1 : Int) (o0 : T_retraceref03_Reader) : Option (T_retraceref03_Reader) :=
  cond (o0.Bad == 0) (some (⟨o0.S, p1⟩ : T_retraceref03_Reader)) (some o0)
/- retraceref03_Reader_Num -/
noncomputable def F_retraceref03_Reader_Num (o0 : T_retraceref03_Reader) : Option (Int × T_retraceref03_Reader) :=
  cond (o0.Bad != 0) (some (0, o0)) ((F_retraceref01_Get o0.S 0).bind fun y4 => cond (y4.E != 0) ((F_retraceref03_Reader_fail y4.E o0).bind fun y10 => some (0, y10)) (grd ((0 : Int) ≤ y4.Next ∧ y4.Next ≤ (o0.S.size : Int) ∧ (o0.S.size : Int) ≤ (o0.S.size : Int)) <| some (y4.U, (⟨(o0.S.extract (Int.toNat y4.Next) (Int.toNat (o0.S.size : Int))), o0.Bad⟩ : T_retraceref03_Reader))))
/- retraceref01_Zag -/
noncomputable def F_retraceref01_Zag (p0 : Int) : Option (Int) :=
  cond ((Int.tmod p0 2) == 1) (some (w64 ((w64 (0 - (w64 (wu64 (Int.tdiv p0 2))))) - 1))) (some (w64 (wu64 (Int.tdiv p0 2))))
/- retraceref03_Reader_Int -/
noncomputable def F_retraceref03_Reader_Int (o0 : T_retraceref03_Reader) : Option (Int × T_retraceref03_Reader) :=
  (F_retraceref03_Reader_Num o0).bind fun y3 => (F_retraceref01_Zag y3.1).bind fun y4 => some (y4, y3.2)
/- retraceref03_Reader_Raw -/
noncomputable def F_retraceref03_Reader_Raw (p1 : Int) (o0 : T_retraceref03_Reader) : Option (ByteArray × T_retraceref03_Reader) :=
  cond (o0.Bad != 0) (some ((⟨#[]⟩ : ByteArray), o0)) (cond (decide (p1 < 0)) ((F_retraceref03_Reader_fail 1 o0).bind fun y8 => some ((⟨#[]⟩ : ByteArray), y8)) (cond (decide ((o0.S.size : Int) < p1)) ((F_retraceref03_Reader_fail 2 o0).bind fun y14 => some ((⟨#[]⟩ : ByteArray), y14)) (grd ((0 : Int) ≤ 0 ∧ 0 ≤ p1 ∧ p1 ≤ (o0.S.size : Int)) <| grd ((0 : Int) ≤ p1 ∧ p1 ≤ (o0.S.size : Int) ∧ (o0.S.size : Int) ≤ (o0.S.size : Int)) <| some ((o0.S.extract (Int.toNat 0) (Int.toNat p1)), (⟨(o0.S.extract (Int.toNat p1) (Int.toNat (o0.S.size : Int))), o0.Bad⟩ : T_retraceref03_Reader)))))
/- retraceref03_Reader_Bool -/
noncomputable def F_retraceref03_Reader_Bool_J1 (x10 : ByteArray) (x11 : Int) : Option (Bool × T_retraceref03_Reader) :=
  (F_retraceref03_Reader_Raw 1 (⟨x10, x11⟩ : T_retraceref03_Reader)).bind fun y13 => some ((y13.1.toList == (⟨#[1]⟩ : ByteArray).toList), y13.2)
noncomputable def F_retraceref03_Reader_Bool_J2 (o0 : T_retraceref03_Reader) (x17 : Bool) : Option (Bool × T_retraceref03_Reader) :=
  cond x17 ((F_retraceref03_Reader_fail 3 o0).bind fun y19 => F_retraceref03_Reader_Bool_J1 y19.S y19.Bad) (F_retraceref03_Reader_Bool_J1 o0.S o0.Bad)
noncomputable def F_retraceref03_Reader_Bool (o0 : T_retraceref03_Reader) : Option (Bool × T_retraceref03_Reader) :=
  cond (o0.Bad == 0) (cond (decide (0 < (o0.S.size : Int))) ((sAt o0.S 0).bind fun y22 => F_retraceref03_Reader_Bool_J2 o0 (decide (1 < y22))) (F_retraceref03_Reader_Bool_J2 o0 false)) (F_retraceref03_Reader_Bool_J2 o0 false)
/- retraceref03_Reader_Upto -/
noncomputable def F_retraceref03_Reader_Upto_J1 (o0 : T_retraceref03_Reader) (y2 : Int × T_retraceref03_Reader) (x13 : Bool) : Option (Int × T_retraceref03_Reader) :=
  cond x13 ((F_retraceref03_Reader_fail 6 (⟨o0.S, y2.2.Bad⟩ : T_retraceref03_Reader)).bind fun y16 => some (0, y16)) (some ((w64 y2.1), y2.2))
noncomputable def F_retraceref03_Reader_Upto (p1 : Int) (o0 : T_retraceref03_Reader) : Option (Int × T_retraceref03_Reader) :=
  (F_retraceref03_Reader_Num o0).bind fun y2 => cond (y2.2.Bad == 0) (cond (decide (p1 < 0)) (F_retraceref03_Reader_Upto_J1 o0 y2 true) (F_retraceref03_Reader_Upto_J1 o0 y2 (decide ((wu64 p1) < y2.1)))) (F_retraceref03_Reader_Upto_J1 o0 y2 false)
/- retraceref03_Reader_Text -/
noncomputable def F_retraceref03_Reader_Text (p1 : Int) (o0 : T_retraceref03_Reader) : Option (ByteArray × T_retraceref03_Reader) :=
  (F_retraceref03_Reader_Upto p1 o0).bind fun y2 => (F_retraceref03_Reader_Raw y2.1 y2.2).bind fun y4 => some (y4.1, y4.2)
/- wire_Reader_Ints -/
noncomputable def F_wire_Reader_Ints_J1 (x24 : ByteArray) (x25 : Int) (x26 : (List Int)) (x37 : Bool) : Option ((ByteArray × Int × (List Int)) ⊕ ((List Int) × T_wire_Reader)) :=
  cond x37 ((F_wire_Reader_Int (⟨x24, x25⟩ : T_wire_Reader)).bind fun y39 => grd (((x26).length + ([y39.1]).length) * 8 ≤ 140737488355328) <| some (.inl (y39.2.s, y39.2.e, (x26 ++ [y39.1])))) (((F_wire_Reader_Err (⟨x24, x25⟩ : T_wire_Reader)).bind fun y47 => cond (y47 != 0) (some (([] : List Int), (⟨x24, x25⟩ : T_wire_Reader))) (some (x26, (⟨x24, x25⟩ : T_wire_Reader)))).map Sum.inr)
noncomputable def F_wire_Reader_Ints_L2 (y2 : Int × T_wire_Reader) (x24 : ByteArray) (x25 : Int) (x26 : (List Int)) : Option ((ByteArray × Int × (List Int)) ⊕ ((List Int) × T_wire_Reader)) :=
  cond (decide (((x26).length : Int) < y2.1)) ((F_wire_Reader_Err (⟨x24, x25⟩ : T_wire_Reader)).bind fun y50 => F_wire_Reader_Ints_J1 x24 x25 x26 (y50 == 0)) (F_wire_Reader_Ints_J1 x24 x25 x26 false)
noncomputable def F_wire_Reader_Ints (p1 : Int) (o0 : T_wire_Reader) : Option ((List Int) × T_wire_Reader) :=
  (F_wire_Reader_Upto p1 o0).bind fun y2 => Loop (fun s : (ByteArray × Int × (List Int)) => F_wire_Reader_Ints_L2 y2 s.1 s.2.1 s.2.2) (y2.2.s, y2.2.e, ([] : (List Int)))
/- retraceref03_Reader_Ints -/
noncomputable def F_retraceref03_Reader_Ints_J1 (x23 : Int) (x24 : ByteArray) (x25 : Int) (x26 : (List Int)) (x34 : Bool) : Option ((Int × ByteArray × Int × (List Int)) ⊕ ((List Int) × T_retraceref03_Reader)) :=
  cond x34 ((F_retraceref03_Reader_Int (⟨x24, x25⟩ : T_retraceref03_Reader)).bind fun y38 => grd (((x26).length + ([y38.1]).length) * 8 ≤ 140737488355328) <| some (.inl ((w64 (x23 + 1)), y38.2.S, y38.2.Bad, (x26 ++ [y38.1])))) ((cond (x25 != 0) (some (([] : List Int), (⟨x24, x25⟩ : T_retraceref03_Reader))) (some (x26, (⟨x24, x25⟩ : T_retraceref03_Reader)))).map Sum.inr)
noncomputable def F_retraceref03_Reader_Ints_L2 (y2 : Int × T_retraceref03_Reader) (x23 : Int) (x24 : ByteArray) (x25 : Int) (x26 : (List Int)) : Option ((Int × ByteArray × Int × (List Int)) ⊕ ((List Int) × T_retraceref03_Reader)) :=
  cond (decide (x23 < y2.1)) (F_retraceref03_Reader_Ints_J1 x23 x24 x25 x26 (x25 == 0)) (F_retraceref03_Reader_Ints_J1 x23 x24 x25 x26 false)
noncomputable def F_retraceref03_Reader_Ints (p1 : Int) (o0 : T_retraceref03_Reader) : Option ((List Int) × T_retraceref03_Reader) :=
  (F_retraceref03_Reader_Upto p1 o0).bind fun y2 => Loop (fun s : (Int × ByteArray × Int × (List Int)) => F_retraceref03_Reader_Ints_L2 y2 s.1 s.2.1 s.2.2.1 s.2.2.2) (0, y2.2.S, y2.2.Bad, ([] : (List Int)))
/- retraceref03_Same -/
noncomputable def F_retraceref03_Same_L1 (o0 : (List Int)) (o1 : (List Int)) (x22 : Int) : Option ((Int) ⊕ (Bool)) :=
  cond (decide (x22 < ((o0).length : Int))) ((lAt o0 x22).bind fun y34 => (lAt o1 x22).bind fun y35 => cond (y34 != y35) ((some false).map Sum.inr) (some (.inl (w64 (x22 + 1))))) ((some true).map Sum.inr)
noncomputable def F_retraceref03_Same (o0 : (List Int)) (o1 : (List Int)) : Option (Bool) :=
  cond (((o0).length : Int) != ((o1).length : Int)) (some false) (Loop (fun s : (Int) => F_retraceref03_Same_L1 o0 o1 s) 0)
/- wire_Reader_Fail_1 -/
noncomputable def F_wire_Reader_Fail_1 (p0 : ByteArray) (o0_0 : Int) : Option (Int × Int) :=
  some (0, o0_0)
/- wire_Reader_step_v6 -/
noncomputable def F_wire_Reader_step_v6 (o0 : T_wire_Reader) (o1_0 : Int) : Option (Bool × T_wire_Reader) :=
  cond (o0.e != 0) (some (false, o0)) ((F_wire_Reader_Fail_1 o0.s o1_0).bind fun y4 => cond (y4.2 != 0) (some (false, (⟨o0.s, y4.2⟩ : T_wire_Reader))) (grd ((0 : Int) ≤ y4.1 ∧ y4.1 ≤ (o0.s.size : Int) ∧ (o0.s.size : Int) ≤ (o0.s.size : Int)) <| some (true, (⟨(o0.s.extract (Int.toNat y4.1) (Int.toNat (o0.s.size : Int))), o0.e⟩ : T_wire_Reader))))
/- wire_Reader_Fail -/
noncomputable def F_wire_Reader_Fail (p1 : Int) (o0 : T_wire_Reader) : Option (T_wire_Reader) :=
  (F_wire_Reader_step_v6 o0 p1).bind fun y1 => some y1.2
/- retraceref03_Reader_Fail -/
noncomputable def F_retraceref03_Reader_Fail (p1 : Int) (o0 : T_retraceref03_Reader) : Option (T_retraceref03_Reader) :=
  (F_retraceref03_Reader_fail p1 o0).bind fun y1 => some y1
/- retracelaw03_read -/
noncomputable def F_retracelaw03_read_J1 (x82 : ByteArray) (x83 : Int) (x84 : ByteArray) (x85 : Int) : Option (Bool × T_wire_Reader × T_retraceref03_Reader) :=
  some (true, (⟨x82, x83⟩ : T_wire_Reader), (⟨x84, x85⟩ : T_retraceref03_Reader))
noncomputable def F_retracelaw03_read_J2 (p2 : T_retracelaw03_Part) (o0 : T_wire_Reader) (o1 : T_retraceref03_Reader) (x87 : Bool) : Option (Bool × T_wire_Reader × T_retraceref03_Reader) :=
  cond x87 ((F_wire_Reader_Fail p2.N o0).bind fun y90 => (F_retraceref03_Reader_Fail p2.N o1).bind fun y91 => F_retracelaw03_read_J1 y90.s y90.e y91.S y91.Bad) (F_retracelaw03_read_J1 o0.s o0.e o1.S o1.Bad)
noncomputable def F_retracelaw03_read (p2 : T_retracelaw03_Part) (o0 : T_wire_Reader) (o1 : T_retraceref03_Reader) : Option (Bool × T_wire_Reader × T_retraceref03_Reader) :=
  cond (p2.Kind == 0) ((F_wire_Reader_Num o0).bind fun y41 => (F_retraceref03_Reader_Num o1).bind fun y42 => some ((y41.1 == y42.1), y41.2, y42.2)) (cond (p2.Kind == 1) ((F_wire_Reader_Int o0).bind fun y46 => (F_retraceref03_Reader_Int o1).bind fun y47 => some ((y46.1 == y47.1), y46.2, y47.2)) (cond (p2.Kind == 2) ((F_wire_Reader_Bool o0).bind fun y51 => (F_retraceref03_Reader_Bool o1).bind fun y52 => some ((y51.1 == y52.1), y51.2, y52.2)) (cond (p2.Kind == 3) ((F_wire_Reader_Text p2.N o0).bind fun y56 => (F_retraceref03_Reader_Text p2.N o1).bind fun y57 => some ((y56.1.toList == y57.1.toList), y56.2, y57.2)) (cond (p2.Kind == 4) ((F_wire_Reader_Raw p2.N o0).bind fun y61 => (F_retraceref03_Reader_Raw p2.N o1).bind fun y62 => some ((y61.1.toList == y62.1.toList), y61.2, y62.2)) (cond (p2.Kind == 5) ((F_wire_Reader_Ints p2.N o0).bind fun y67 => (F_retraceref03_Reader_Ints p2.N o1).bind fun y68 => (F_retraceref03_Same y67.1 y68.1).bind fun y69 => some (y69, y67.2, y68.2)) (cond (p2.Kind == 6) ((F_wire_Reader_Upto p2.N o0).bind fun y73 => (F_retraceref03_Reader_Upto p2.N o1).bind fun y74 => some ((y73.1 == y74.1), y73.2, y74.2)) (cond (decide (0 ≤ p2.N)) (F_retracelaw03_read_J2 p2 o0 o1 (decide (p2.N ≤ 18))) (F_retracelaw03_read_J2 p2 o0 o1 false))))))))
/- retraceref03_Reader_End -/
noncomputable def F_retraceref03_Reader_End_J1 (o0 : T_retraceref03_Reader) (x6 : Bool) : Option (Int) :=
  cond x6 (some 3) (some o0.Bad)
noncomputable def F_retraceref03_Reader_End (o0 : T_retraceref03_Reader) : Option (Int) :=
  cond (o0.Bad == 0) (F_retraceref03_Reader_End_J1 o0 (decide (0 < (o0.S.size : Int)))) (F_retraceref03_Reader_End_J1 o0 false)
/- retracelaw03_WireReads -/
noncomputable def F_retracelaw03_WireReads_J2 (x66 : Int) (x99 : Bool) (x100 : ByteArray) (x101 : Int) (x102 : ByteArray) (x103 : Int) : Option ((Int × ByteArray × Int × ByteArray × Int) ⊕ (Bool)) :=
  cond x99 ((some false).map Sum.inr) (some (.inl ((w64 (x66 + 1)), x100, x101, x102, x103)))
noncomputable def F_retracelaw03_WireReads_J3 (x119 : Bool) : Option (Bool) :=
  some x119
noncomputable def F_retracelaw03_WireReads_L4 (p1 : (List T_retracelaw03_Part)) (x66 : Int) (x67 : ByteArray) (x68 : Int) (x69 : ByteArray) (x70 : Int) : Option ((Int × ByteArray × Int × ByteArray × Int) ⊕ (Bool)) :=
  cond (decide (x66 < ((p1).length : Int))) ((lAt p1 x66).bind fun y107 => (F_retracelaw03_read y107 (⟨x67, x68⟩ : T_wire_Reader) (⟨x69, x70⟩ : T_retraceref03_Reader)).bind fun y108 => cond (!y108.1) (F_retracelaw03_WireReads_J2 x66 true y108.2.1.s y108.2.1.e y108.2.2.S y108.2.2.Bad) ((F_wire_Reader_Left y108.2.1).bind fun y110 => cond (y110 != (y108.2.2.S.size : Int)) (F_retracelaw03_WireReads_J2 x66 true y108.2.1.s y108.2.1.e y108.2.2.S y108.2.2.Bad) ((F_wire_Reader_Err y108.2.1).bind fun y112 => F_retracelaw03_WireReads_J2 x66 (y112 != y108.2.2.Bad) y108.2.1.s y108.2.1.e y108.2.2.S y108.2.2.Bad))) (((F_wire_Reader_End (⟨x67, x68⟩ : T_wire_Reader)).bind fun y120 => (F_retraceref03_Reader_End (⟨x69, x70⟩ : T_retraceref03_Reader)).bind fun y121 => cond (y120 == y121) ((F_retracelaw03_live).bind fun y123 => F_retracelaw03_WireReads_J3 y123) (F_retracelaw03_WireReads_J3 false)).map Sum.inr)
noncomputable def F_retracelaw03_WireReads_J1 (p0 : ByteArray) (p1 : (List T_retracelaw03_Part)) (x11 : Bool) : Option (Bool) :=
  cond x11 ((F_retracelaw03_live).bind fun y14 => some y14) ((F_wire_Open p0).bind fun y16 => Loop (fun s : (Int × ByteArray × Int × ByteArray × Int) => F_retracelaw03_WireReads_L4 p1 s.1 s.2.1 s.2.2.1 s.2.2.2.1 s.2.2.2.2) (0, y16.s, y16.e, p0, 0))
noncomputable def F_retracelaw03_WireReads (p0 : ByteArray) (p1 : (List T_retracelaw03_Part)) : Option (Bool) :=
  cond (decide (600 < (p0.size : Int))) (F_retracelaw03_WireReads_J1 p0 p1 true) ((F_retracelaw03_long p1).bind fun y125 => F_retracelaw03_WireReads_J1 p0 p1 y125)
/- retracelaw03_long_v2 -/
noncomputable def F_retracelaw03_long_v2_J2 (x32 : Int) (x53 : Bool) : Option ((Int) ⊕ (Bool)) :=
  cond x53 ((some true).map Sum.inr) (some (.inl (w64 (x32 + 1))))
noncomputable def F_retracelaw03_long_v2_J1 (o0 : (List T_retracelaw03_Part)) (x32 : Int) (x40 : Bool) : Option ((Int) ⊕ (Bool)) :=
  cond x40 ((lAt o0 x32).bind fun y57 => cond (decide (200 < (y57.S.size : Int))) (F_retracelaw03_long_v2_J2 x32 true) ((lAt o0 x32).bind fun y59 => F_retracelaw03_long_v2_J2 x32 (decide (60 < ((y59.L).length : Int))))) ((some (decide (40 < ((o0).length : Int)))).map Sum.inr)
noncomputable def F_retracelaw03_long_v2_L3 (o0 : (List T_retracelaw03_Part)) (x32 : Int) : Option ((Int) ⊕ (Bool)) :=
  cond (decide (x32 < ((o0).length : Int))) (F_retracelaw03_long_v2_J1 o0 x32 (decide (x32 < 40))) (F_retracelaw03_long_v2_J1 o0 x32 false)
noncomputable def F_retracelaw03_long_v2 (o0 : (List T_retracelaw03_Part)) : Option (Bool) :=
  Loop (fun s : (Int) => F_retracelaw03_long_v2_L3 o0 s) 0
/- wire_Reader_step_v7 -/
noncomputable def F_wire_Reader_step_v7 (o0_0 : Int) : Option (Bool) :=
  some false
/- wire_Reader_Num_v2 -/
noncomputable def F_wire_Reader_Num_v2  : Option (Int) :=
  (F_wire_Reader_step_v7 0).bind fun y2 => some 0
/- wire_Reader_step_v8 -/
noncomputable def F_wire_Reader_step_v8 (o0_0 : Int) : Option (Bool) :=
  some false
/- wire_Reader_Int_v2 -/
noncomputable def F_wire_Reader_Int_v2  : Option (Int) :=
  (F_wire_Reader_step_v8 0).bind fun y2 => some 0
/- wire_Reader_step_v9 -/
noncomputable def F_wire_Reader_step_v9 (o0_0 : Int) : Option (Bool) :=
  some false
/- wire_Reader_Bool_v2 -/
noncomputable def F_wire_Reader_Bool_v2_J1  : Option (Bool) :=
  some false
noncomputable def F_wire_Reader_Bool_v2  : Option (Bool) :=
  (F_wire_Reader_step_v9 0).bind fun y2 => cond y2 (F_wire_Reader_Bool_v2_J1) (F_wire_Reader_Bool_v2_J1)
/- wire_Reader_step_v10 -/
noncomputable def F_wire_Reader_step_v10 (o0_0 : Int) (o1_0 : Int) : Option (Bool) :=
  some false
/- wire_Reader_Upto_v2 -/
noncomputable def F_wire_Reader_Upto_v2 (p1 : Int) : Option (Int) :=
  (F_wire_Reader_step_v10 0 p1).bind fun y2 => cond (!y2) (some 0) (some 0)
/- wire_Reader_step_v11 -/
noncomputable def F_wire_Reader_step_v11 (o0_0 : Int) (o1_0 : ByteArray) : Option (Bool) :=
  some false
/- wire_Reader_Raw_v2 -/
noncomputable def F_wire_Reader_Raw_v2 (p1 : Int) : Option (ByteArray) :=
  (F_wire_Reader_step_v11 p1 (⟨#[]⟩ : ByteArray)).bind fun y2 => some (⟨#[]⟩ : ByteArray)
/- wire_Reader_Text_v2 -/
noncomputable def F_wire_Reader_Text_v2 (p1 : Int) : Option (ByteArray) :=
  (F_wire_Reader_Upto_v2 p1).bind fun y3 => (F_wire_Reader_Raw_v2 y3).bind fun y4 => some y4
/- wire_Reader_Err_v2 -/
noncomputable def F_wire_Reader_Err_v2  : Option (Int) :=
  some 9
/- wire_Reader_Ints_v2 -/
noncomputable def F_wire_Reader_Ints_v2_J1 (x22 : (List Int)) (x33 : Bool) : Option (((List Int)) ⊕ ((List Int))) :=
  cond x33 ((F_wire_Reader_Int_v2).bind fun y35 => grd (((x22).length + ([y35]).length) * 8 ≤ 140737488355328) <| some (.inl (x22 ++ [y35]))) (((F_wire_Reader_Err_v2).bind fun y43 => cond (y43 != 0) (some ([] : List Int)) (some x22)).map Sum.inr)
noncomputable def F_wire_Reader_Ints_v2_L2 (y2 : Int) (x22 : (List Int)) : Option (((List Int)) ⊕ ((List Int))) :=
  cond (decide (((x22).length : Int) < y2)) ((F_wire_Reader_Err_v2).bind fun y46 => F_wire_Reader_Ints_v2_J1 x22 (y46 == 0)) (F_wire_Reader_Ints_v2_J1 x22 false)
noncomputable def F_wire_Reader_Ints_v2 (p1 : Int) : Option ((List Int)) :=
  (F_wire_Reader_Upto_v2 p1).bind fun y2 => Loop (fun s : ((List Int)) => F_wire_Reader_Ints_v2_L2 y2 s) ([] : (List Int))
/- wire_Reader_step_v12 -/
noncomputable def F_wire_Reader_step_v12 (o0_0 : Int) : Option (Bool) :=
  some false
/- wire_Reader_Fail_v2 -/
noncomputable def F_wire_Reader_Fail_v2 (p1 : Int) : Option (Unit) :=
  (F_wire_Reader_step_v12 p1).bind fun y1 => some ()
/- retracelaw03_read_v2 -/
noncomputable def F_retracelaw03_read_v2_J1 (x82 : ByteArray) (x83 : Int) : Option (Bool × T_retraceref03_Reader) :=
  some (true, (⟨x82, x83⟩ : T_retraceref03_Reader))
noncomputable def F_retracelaw03_read_v2_J2 (p2 : T_retracelaw03_Part) (o0 : T_retraceref03_Reader) (x85 : Bool) : Option (Bool × T_retraceref03_Reader) :=
  cond x85 ((F_wire_Reader_Fail_v2 p2.N).bind fun y88 => (F_retraceref03_Reader_Fail p2.N o0).bind fun y89 => F_retracelaw03_read_v2_J1 y89.S y89.Bad) (F_retracelaw03_read_v2_J1 o0.S o0.Bad)
noncomputable def F_retracelaw03_read_v2 (p2 : T_retracelaw03_Part) (o0 : T_retraceref03_Reader) : Option (Bool × T_retraceref03_Reader) :=
  cond (p2.Kind == 0) ((F_wire_Reader_Num_v2).bind fun y41 => (F_retraceref03_Reader_Num o0).bind fun y42 => some ((y41 == y42.1), y42.2)) (cond (p2.Kind == 1) ((F_wire_Reader_Int_v2).bind fun y46 => (F_retraceref03_Reader_Int o0).bind fun y47 => some ((y46 == y47.1), y47.2)) (cond (p2.Kind == 2) ((F_wire_Reader_Bool_v2).bind fun y51 => (F_retraceref03_Reader_Bool o0).bind fun y52 => some ((y51 == y52.1), y52.2)) (cond (p2.Kind == 3) ((F_wire_Reader_Text_v2 p2.N).bind fun y56 => (F_retraceref03_Reader_Text p2.N o0).bind fun y57 => some ((y56.toList == y57.1.toList), y57.2)) (cond (p2.Kind == 4) ((F_wire_Reader_Raw_v2 p2.N).bind fun y61 => (F_retraceref03_Reader_Raw p2.N o0).bind fun y62 => some ((y61.toList == y62.1.toList), y62.2)) (cond (p2.Kind == 5) ((F_wire_Reader_Ints_v2 p2.N).bind fun y67 => (F_retraceref03_Reader_Ints p2.N o0).bind fun y68 => (F_retraceref03_Same y67 y68.1).bind fun y69 => some (y69, y68.2)) (cond (p2.Kind == 6) ((F_wire_Reader_Upto_v2 p2.N).bind fun y73 => (F_retraceref03_Reader_Upto p2.N o0).bind fun y74 => some ((y73 == y74.1), y74.2)) (cond (decide (0 ≤ p2.N)) (F_retracelaw03_read_v2_J2 p2 o0 (decide (p2.N ≤ 18))) (F_retracelaw03_read_v2_J2 p2 o0 false))))))))
/- wire_Reader_Left_v2 -/
noncomputable def F_wire_Reader_Left_v2  : Option (Int) :=
  some 0
/- wire_Reader_End_v2 -/
noncomputable def F_wire_Reader_End_v2_J1 (y10 : Int) (x13 : Bool) : Option (Int) :=
  cond x13 (some y10) (some 3)
noncomputable def F_wire_Reader_End_v2  : Option (Int) :=
  (F_wire_Reader_Err_v2).bind fun y10 => cond (y10 != 0) (F_wire_Reader_End_v2_J1 y10 true) ((F_wire_Reader_Left_v2).bind fun y16 => F_wire_Reader_End_v2_J1 y10 (y16 == 0))
/- retracelaw03_WireNone -/
noncomputable def F_retracelaw03_WireNone_J3 (x55 : Bool) : Option (Bool) :=
  some x55
noncomputable def F_retracelaw03_WireNone_J2 (p0 : ByteArray) (p1 : T_retracelaw03_Part) (p2 : T_retracelaw03_Part) (x38 : Bool) : Option (Bool) :=
  cond x38 (some false) ((F_wire_Open p0).bind fun y41 => (F_wire_Reader_Fail 12 y41).bind fun y43 => (F_retracelaw03_read p1 y43 (⟨p0, 12⟩ : T_retraceref03_Reader)).bind fun y56 => cond y56.1 ((F_retracelaw03_read p2 y56.2.1 y56.2.2).bind fun y58 => cond y58.1 ((F_wire_Reader_Left y58.2.1).bind fun y60 => cond (y60 == (p0.size : Int)) ((F_wire_Reader_Err y58.2.1).bind fun y62 => cond (y62 == 12) ((F_wire_Reader_End y58.2.1).bind fun y64 => cond (y64 == 12) ((F_retracelaw03_live).bind fun y66 => F_retracelaw03_WireNone_J3 y66) (F_retracelaw03_WireNone_J3 false)) (F_retracelaw03_WireNone_J3 false)) (F_retracelaw03_WireNone_J3 false)) (F_retracelaw03_WireNone_J3 false)) (F_retracelaw03_WireNone_J3 false))
noncomputable def F_retracelaw03_WireNone_J1 (p0 : ByteArray) (p1 : T_retracelaw03_Part) (p2 : T_retracelaw03_Part) (x11 : Bool) : Option (Bool) :=
  cond x11 ((F_retracelaw03_live).bind fun y14 => some y14) ((F_retracelaw03_read_v2 p1 (⟨(⟨#[]⟩ : ByteArray), 9⟩ : T_retraceref03_Reader)).bind fun y67 => cond (!y67.1) (F_retracelaw03_WireNone_J2 p0 p1 p2 true) ((F_wire_Reader_Left_v2).bind fun y69 => cond (y69 != 0) (F_retracelaw03_WireNone_J2 p0 p1 p2 true) ((F_wire_Reader_Err_v2).bind fun y71 => cond (y71 != 9) (F_retracelaw03_WireNone_J2 p0 p1 p2 true) ((F_wire_Reader_End_v2).bind fun y73 => F_retracelaw03_WireNone_J2 p0 p1 p2 (y73 != 9)))))
noncomputable def F_retracelaw03_WireNone (p0 : ByteArray) (p1 : T_retracelaw03_Part) (p2 : T_retracelaw03_Part) : Option (Bool) :=
  cond (decide (600 < (p0.size : Int))) (F_retracelaw03_WireNone_J1 p0 p1 p2 true) ((F_retracelaw03_long_v2 ([p1, p2])).bind fun y75 => F_retracelaw03_WireNone_J1 p0 p1 p2 y75)
/- crc_table -/
noncomputable def F_crc_table_L1 (x43 : Int) (x44 : (List Int)) (x74 : Int) (x75 : Int) : Option ((Int × Int) ⊕ ((Int × (List Int)) ⊕ ((List Int)))) :=
  cond (decide (x75 < 8)) (some (.inl ((bits .xor .u32 (Int.fdiv x74 2) (bits .and .u32 3988292384 (wu32 (0 - (bits .and .u32 x74 1))))), (w64 (x75 + 1))))) ((grd ((0 : Int) ≤ x43 ∧ x43 < 256 ∧ Int.toNat x43 < (x44).length) <| some (.inl ((w64 (x43 + 1)), (List.set x44 (Int.toNat x43) x74)))).map Sum.inr)
noncomputable def F_crc_table_L2 (x43 : Int) (x44 : (List Int)) : Option ((Int × (List Int)) ⊕ ((List Int))) :=
  cond (decide (x43 < 256)) (Loop (fun s : (Int × Int) => F_crc_table_L1 x43 x44 s.1 s.2) ((wu32 x43), 0)) ((grd ((x44).length = 256) <| grd ((x44).length = 256 ∧ ((List.replicate 256 (0 : Int))).length = 256) <| grd ((x44).length = 256) <| some x44).map Sum.inr)
noncomputable def F_crc_table  : Option ((List Int)) :=
  Loop (fun s : (Int × (List Int)) => F_crc_table_L2 s.1 s.2) (0, (List.replicate 256 (0 : Int)))
/- crc_More -/
noncomputable def F_crc_More_L1 (p1 : ByteArray) (y3 : (List Int)) (x23 : Int) (x24 : Int) : Option ((Int × Int) ⊕ (Int)) :=
  cond (decide (x24 < (((sB p1)).length : Int))) ((lAt (sB p1) x24).bind fun y33 => (aAt 256 y3 (bits .xor .u8 (wu8 x23) y33)).bind fun y34 => some (.inl ((bits .xor .u32 y34 (Int.fdiv x23 256)), (w64 (x24 + 1))))) ((some (bits .xor .u32 4294967295 x23)).map Sum.inr)
noncomputable def F_crc_More (p0 : Int) (p1 : ByteArray) : Option (Int) :=
  (F_crc_table).bind fun y3 => grd ((y3).length = 256 ∧ ((List.replicate 256 (0 : Int))).length = 256) <| grd (p1.size ≤ 281474976710656) <| Loop (fun s : (Int × Int) => F_crc_More_L1 p1 y3 s.1 s.2) ((bits .xor .u32 4294967295 p0), 0)
/- crc_Sum -/
noncomputable def F_crc_Sum (p0 : ByteArray) : Option (Int) :=
  (F_crc_More 0 p0).bind fun y2 => some y2
/- crc_Bytes -/
noncomputable def F_crc_Bytes (p0 : Int) : Option (ByteArray) :=
  some (strOfNums ([(wu8 p0), (wu8 (Int.fdiv p0 256)), (wu8 (Int.fdiv p0 65536)), (wu8 (Int.fdiv p0 16777216))]))
/- crc_Seal -/
noncomputable def F_crc_Seal (p0 : ByteArray) : Option (ByteArray) :=
  (F_crc_Sum p0).bind fun y4 => (F_crc_Bytes y4).bind fun y5 => grd (p0.size + y5.size ≤ 9223372036854775807) <| some (p0 ++ y5)
/- frame_Put -/
noncomputable def F_frame_Put_J1 (p0 : T_api_Frame) (x6 : Bool) : Option (ByteArray × Int) :=
  cond x6 (some ((⟨#[]⟩ : ByteArray), 1)) (cond (decide (1048576 < (p0.Data.size : Int))) (some ((⟨#[]⟩ : ByteArray), 5)) ((F_vint_Put (strOfNums ([(wu8 p0.Kind)])) (wu64 (p0.Data.size : Int))).bind fun y13 => grd (y13.size + p0.Data.size ≤ 9223372036854775807) <| (F_crc_Seal (y13 ++ p0.Data)).bind fun y15 => some (y15, 0)))
noncomputable def F_frame_Put (p0 : T_api_Frame) : Option (ByteArray × Int) :=
  cond (decide (p0.Kind < 0)) (F_frame_Put_J1 p0 true) (F_frame_Put_J1 p0 (decide (255 < p0.Kind)))
/- crc_Open -/
noncomputable def F_crc_Open (p0 : ByteArray) : Option (ByteArray × Int) :=
  cond (decide ((w64 ((p0.size : Int) - 4)) < 0)) (some ((⟨#[]⟩ : ByteArray), 2)) (grd ((0 : Int) ≤ 0 ∧ 0 ≤ (w64 ((p0.size : Int) - 4)) ∧ (w64 ((p0.size : Int) - 4)) ≤ (p0.size : Int)) <| (F_crc_Sum (p0.extract (Int.toNat 0) (Int.toNat (w64 ((p0.size : Int) - 4))))).bind fun y17 => (F_crc_Bytes y17).bind fun y18 => grd ((0 : Int) ≤ (w64 ((p0.size : Int) - 4)) ∧ (w64 ((p0.size : Int) - 4)) ≤ (p0.size : Int) ∧ (p0.size : Int) ≤ (p0.size : Int)) <| cond (!(y18.toList == (p0.extract (Int.toNat (w64 ((p0.size : Int) - 4))) (Int.toNat (p0.size : Int))).toList)) (some ((⟨#[]⟩ : ByteArray), 4)) (grd ((0 : Int) ≤ 0 ∧ 0 ≤ (w64 ((p0.size : Int) - 4)) ∧ (w64 ((p0.size : Int) - 4)) ≤ (p0.size : Int)) <| some ((p0.extract (Int.toNat 0) (Int.toNat (w64 ((p0.size : Int) - 4)))), 0)))
/- frame_Next -/
noncomputable def F_frame_Next_J1 (p0 : ByteArray) (p1 : Int) (x6 : Bool) : Option (T_api_Frame × Int × Int) :=
  cond x6 (some ((⟨0, (⟨#[]⟩ : ByteArray)⟩ : T_api_Frame), 0, 1)) (cond (p1 == (p0.size : Int)) (some ((⟨0, (⟨#[]⟩ : ByteArray)⟩ : T_api_Frame), 0, 2)) ((F_vint_Get p0 (w64 (p1 + 1))).bind fun y11 => cond (y11.2.2 != 0) (some ((⟨0, (⟨#[]⟩ : ByteArray)⟩ : T_api_Frame), 0, y11.2.2)) (cond (decide (1048576 < y11.1)) (some ((⟨0, (⟨#[]⟩ : ByteArray)⟩ : T_api_Frame), 0, 5)) (cond (decide ((w64 ((p0.size : Int) - y11.2.1)) < (w64 ((w64 y11.1) + 4)))) (some ((⟨0, (⟨#[]⟩ : ByteArray)⟩ : T_api_Frame), 0, 2)) (grd ((0 : Int) ≤ p1 ∧ p1 ≤ (w64 ((w64 (y11.2.1 + (w64 y11.1))) + 4)) ∧ (w64 ((w64 (y11.2.1 + (w64 y11.1))) + 4)) ≤ (p0.size : Int)) <| (F_crc_Open (p0.extract (Int.toNat p1) (Int.toNat (w64 ((w64 (y11.2.1 + (w64 y11.1))) + 4))))).bind fun y26 => cond (y26.2 != 0) (some ((⟨0, (⟨#[]⟩ : ByteArray)⟩ : T_api_Frame), 0, y26.2)) ((sAt p0 p1).bind fun y30 => grd ((0 : Int) ≤ y11.2.1 ∧ y11.2.1 ≤ (w64 (y11.2.1 + (w64 y11.1))) ∧ (w64 (y11.2.1 + (w64 y11.1))) ≤ (p0.size : Int)) <| some ((⟨(w64 y30), (p0.extract (Int.toNat y11.2.1) (Int.toNat (w64 (y11.2.1 + (w64 y11.1)))))⟩ : T_api_Frame), (w64 ((w64 (y11.2.1 + (w64 y11.1))) + 4)), 0)))))))
noncomputable def F_frame_Next (p0 : ByteArray) (p1 : Int) : Option (T_api_Frame × Int × Int) :=
  cond (decide (p1 < 0)) (F_frame_Next_J1 p0 p1 true) (F_frame_Next_J1 p0 p1 (decide ((p0.size : Int) < p1)))
/- retracelaw04_live -/
noncomputable def F_retracelaw04_live_J1 (x9 : Bool) : Option (Bool) :=
  some x9
noncomputable def F_retracelaw04_live  : Option (Bool) :=
  (F_frame_Put (⟨1, (⟨#[97]⟩ : ByteArray)⟩ : T_api_Frame)).bind fun y2 => (F_frame_Next y2.1 0).bind fun y4 => cond (y2.2 == 0) (cond ((y2.1.size : Int) == 7) (cond ((y4.1.Kind == 1) && ((y4.1.Data.toList == (⟨#[97]⟩ : ByteArray).toList) && true)) (cond (y4.2.1 == 7) (F_retracelaw04_live_J1 (y4.2.2 == 0)) (F_retracelaw04_live_J1 false)) (F_retracelaw04_live_J1 false)) (F_retracelaw04_live_J1 false)) (F_retracelaw04_live_J1 false)
/- retraceref02_push -/
noncomputable def F_retraceref02_push_J1 (x57 : Int) (x63 : Int) : Option ((Int × Int) ⊕ ((Int × Int) ⊕ (Int))) :=
  some (.inl (x63, (w64 (x57 + 1))))
noncomputable def F_retraceref02_push_L2 (x36 : Int) (x56 : Int) (x57 : Int) : Option ((Int × Int) ⊕ ((Int × Int) ⊕ (Int))) :=
  cond (decide (x57 < 8)) (cond ((Int.tmod x56 2) == 1) (F_retraceref02_push_J1 x57 (bits .xor .u32 (wu32 (Int.tdiv x56 2)) 3988292384)) (F_retraceref02_push_J1 x57 (wu32 (Int.tdiv x56 2)))) ((some (.inl (x56, (w64 (x36 + 1))))).map Sum.inr)
noncomputable def F_retraceref02_push_L3 (p1 : ByteArray) (x35 : Int) (x36 : Int) : Option ((Int × Int) ⊕ (Int)) :=
  cond (decide (x36 < (p1.size : Int))) ((sAt p1 x36).bind fun y55 => Loop (fun s : (Int × Int) => F_retraceref02_push_L2 x36 s.1 s.2) ((bits .xor .u32 x35 (wu32 y55)), 0)) ((some x35).map Sum.inr)
noncomputable def F_retraceref02_push (p0 : Int) (p1 : ByteArray) : Option (Int) :=
  Loop (fun s : (Int × Int) => F_retraceref02_push_L3 p1 s.1 s.2) (p0, 0)
/- retraceref02_Sum -/
noncomputable def F_retraceref02_Sum (p0 : ByteArray) : Option (Int) :=
  (F_retraceref02_push 4294967295 p0).bind fun y2 => some (bits .xor .u32 y2 4294967295)
/- retraceref02_Bytes -/
noncomputable def F_retraceref02_Bytes (p0 : Int) : Option (ByteArray) :=
  some (strOfNums ([(wu8 (Int.tmod p0 256)), (wu8 (Int.tmod (wu32 (Int.tdiv p0 256)) 256)), (wu8 (Int.tmod (wu32 (Int.tdiv p0 65536)) 256)), (wu8 (wu32 (Int.tdiv p0 16777216)))]))
/- retraceref04_Bytes -/
noncomputable def F_retraceref04_Bytes_J1 (p0 : T_api_Frame) (x6 : Bool) : Option (ByteArray × Int) :=
  cond x6 (some ((⟨#[]⟩ : ByteArray), 1)) (cond (decide (1048576 < (p0.Data.size : Int))) (some ((⟨#[]⟩ : ByteArray), 5)) ((F_retraceref01_Num (wu64 (p0.Data.size : Int))).bind fun y13 => grd ((strOfNums ([(wu8 p0.Kind)])).size + y13.size ≤ 9223372036854775807) <| grd (((strOfNums ([(wu8 p0.Kind)])) ++ y13).size + p0.Data.size ≤ 9223372036854775807) <| (F_retraceref02_Sum (((strOfNums ([(wu8 p0.Kind)])) ++ y13) ++ p0.Data)).bind fun y19 => (F_retraceref02_Bytes y19).bind fun y20 => grd ((((strOfNums ([(wu8 p0.Kind)])) ++ y13) ++ p0.Data).size + y20.size ≤ 9223372036854775807) <| some (((((strOfNums ([(wu8 p0.Kind)])) ++ y13) ++ p0.Data) ++ y20), 0)))
noncomputable def F_retraceref04_Bytes (p0 : T_api_Frame) : Option (ByteArray × Int) :=
  cond (decide (p0.Kind < 0)) (F_retraceref04_Bytes_J1 p0 true) (F_retraceref04_Bytes_J1 p0 (decide (255 < p0.Kind)))
/- retracelaw04_FramePuts -/
noncomputable def F_retracelaw04_FramePuts_J1 (x20 : Bool) : Option (Bool) :=
  some x20
noncomputable def F_retracelaw04_FramePuts (p0 : T_api_Frame) (p1 : Int) : Option (Bool) :=
  cond (decide (2000 < (p0.Data.size : Int))) ((F_retracelaw04_live).bind fun y6 => some y6) ((F_frame_Put p0).bind fun y8 => (F_retraceref04_Bytes p0).bind fun y10 => grd ((0 : Int) ≤ (w64 (1048577 + (w64 p1))) ∧ (w64 (1048577 + (w64 p1))) ≤ (w64 (1048577 + (w64 p1))) ∧ (w64 (1048577 + (w64 p1))) ≤ 281474976710656 ∧ (1 : Int) * (w64 (1048577 + (w64 p1))) ≤ 281474976710656) <| (F_frame_Put (⟨5, (strOfNums (List.replicate (Int.toNat (w64 (1048577 + (w64 p1)))) (0 : Int)))⟩ : T_api_Frame)).bind fun y14 => cond (y8.1.toList == y10.1.toList) (cond (y8.2 == y10.2) (cond (y14.1.toList == (⟨#[]⟩ : ByteArray).toList) (cond (y14.2 == 5) ((F_retracelaw04_live).bind fun y25 => F_retracelaw04_FramePuts_J1 y25) (F_retracelaw04_FramePuts_J1 false)) (F_retracelaw04_FramePuts_J1 false)) (F_retracelaw04_FramePuts_J1 false)) (F_retracelaw04_FramePuts_J1 false))
/- retraceref04_Next -/
noncomputable def F_retraceref04_Next_J1 (p0 : ByteArray) (p1 : Int) (x6 : Bool) : Option (T_retraceref04_Got) :=
  cond x6 (some (⟨(⟨0, (⟨#[]⟩ : ByteArray)⟩ : T_api_Frame), 0, 1⟩ : T_retraceref04_Got)) (cond (p1 == (p0.size : Int)) (some (⟨(⟨0, (⟨#[]⟩ : ByteArray)⟩ : T_api_Frame), 0, 2⟩ : T_retraceref04_Got)) ((F_retraceref01_Get p0 (w64 (p1 + 1))).bind fun y11 => cond (y11.E != 0) (some (⟨(⟨0, (⟨#[]⟩ : ByteArray)⟩ : T_api_Frame), 0, y11.E⟩ : T_retraceref04_Got)) (cond (decide (1048576 < y11.U)) (some (⟨(⟨0, (⟨#[]⟩ : ByteArray)⟩ : T_api_Frame), 0, 5⟩ : T_retraceref04_Got)) (grd ((0 : Int) ≤ y11.Next ∧ y11.Next ≤ (p0.size : Int) ∧ (p0.size : Int) ≤ (p0.size : Int)) <| cond (decide (((p0.extract (Int.toNat y11.Next) (Int.toNat (p0.size : Int))).size : Int) < (w64 ((w64 y11.U) + 4)))) (some (⟨(⟨0, (⟨#[]⟩ : ByteArray)⟩ : T_api_Frame), 0, 2⟩ : T_retraceref04_Got)) (grd ((0 : Int) ≤ p1 ∧ p1 ≤ (w64 (y11.Next + (w64 y11.U))) ∧ (w64 (y11.Next + (w64 y11.U))) ≤ (p0.size : Int)) <| (F_retraceref02_Sum (p0.extract (Int.toNat p1) (Int.toNat (w64 (y11.Next + (w64 y11.U)))))).bind fun y34 => (F_retraceref02_Bytes y34).bind fun y35 => grd ((0 : Int) ≤ (w64 y11.U) ∧ (w64 y11.U) ≤ (w64 ((w64 y11.U) + 4)) ∧ (w64 ((w64 y11.U) + 4)) ≤ ((p0.extract (Int.toNat y11.Next) (Int.toNat (p0.size : Int))).size : Int)) <| cond (!(y35.toList == ((p0.extract (Int.toNat y11.Next) (Int.toNat (p0.size : Int))).extract (Int.toNat (w64 y11.U)) (Int.toNat (w64 ((w64 y11.U) + 4)))).toList)) (some (⟨(⟨0, (⟨#[]⟩ : ByteArray)⟩ : T_api_Frame), 0, 4⟩ : T_retraceref04_Got)) ((sAt p0 p1).bind fun y40 => grd ((0 : Int) ≤ 0 ∧ 0 ≤ (w64 y11.U) ∧ (w64 y11.U) ≤ ((p0.extract (Int.toNat y11.Next) (Int.toNat (p0.size : Int))).size : Int)) <| some (⟨(⟨(w64 y40), ((p0.extract (Int.toNat y11.Next) (Int.toNat (p0.size : Int))).extract (Int.toNat 0) (Int.toNat (w64 y11.U)))⟩ : T_api_Frame), (w64 ((w64 (y11.Next + (w64 y11.U))) + 4)), 0⟩ : T_retraceref04_Got)))))))
noncomputable def F_retraceref04_Next (p0 : ByteArray) (p1 : Int) : Option (T_retraceref04_Got) :=
  cond (decide (p1 < 0)) (F_retraceref04_Next_J1 p0 p1 true) (F_retraceref04_Next_J1 p0 p1 (decide ((p0.size : Int) < p1)))
/- retracelaw04_FrameNext -/
noncomputable def F_retracelaw04_FrameNext_J1 (x15 : Bool) : Option (Bool) :=
  some x15
noncomputable def F_retracelaw04_FrameNext (p0 : ByteArray) (p1 : Int) : Option (Bool) :=
  cond (decide (3000 < (p0.size : Int))) ((F_retracelaw04_live).bind fun y6 => some y6) ((F_frame_Next p0 p1).bind fun y8 => (F_retraceref04_Next p0 p1).bind fun y10 => cond ((y8.1.Kind == y10.F.Kind) && ((y8.1.Data.toList == y10.F.Data.toList) && true)) (cond (y8.2.1 == y10.Next) (cond (y8.2.2 == y10.E) ((F_retracelaw04_live).bind fun y19 => F_retracelaw04_FrameNext_J1 y19) (F_retracelaw04_FrameNext_J1 false)) (F_retracelaw04_FrameNext_J1 false)) (F_retracelaw04_FrameNext_J1 false))
/- retracelaw04_FrameBack -/
noncomputable def F_retracelaw04_FrameBack_J2 (x35 : Bool) : Option (Bool) :=
  some x35
noncomputable def F_retracelaw04_FrameBack_J4 (x68 : Bool) : Option (Bool) :=
  some x68
noncomputable def F_retracelaw04_FrameBack_J3 (p2 : ByteArray) (x55 : Bool) : Option (Bool) :=
  cond x55 (some false) ((F_frame_Next p2 0).bind fun y58 => (F_frame_Put y58.1).bind fun y60 => cond (y58.2.2 != 0) ((F_retracelaw04_live).bind fun y70 => F_retracelaw04_FrameBack_J4 y70) (cond (decide (0 ≤ y58.2.1)) (cond (decide (y58.2.1 ≤ (p2.size : Int))) (grd ((0 : Int) ≤ 0 ∧ 0 ≤ y58.2.1 ∧ y58.2.1 ≤ (p2.size : Int)) <| cond (y60.1.toList == (p2.extract (Int.toNat 0) (Int.toNat y58.2.1)).toList) ((F_retracelaw04_live).bind fun y75 => F_retracelaw04_FrameBack_J4 y75) (F_retracelaw04_FrameBack_J4 false)) (F_retracelaw04_FrameBack_J4 false)) (F_retracelaw04_FrameBack_J4 false)))
noncomputable def F_retracelaw04_FrameBack_J1 (p0 : ByteArray) (p1 : T_api_Frame) (p2 : ByteArray) (x11 : Bool) : Option (Bool) :=
  cond x11 ((F_retracelaw04_live).bind fun y14 => some y14) ((F_frame_Put p1).bind fun y16 => cond (y16.2 != 0) (cond (y16.1.toList == (⟨#[]⟩ : ByteArray).toList) (cond (decide (p1.Kind < 0)) ((F_retracelaw04_live).bind fun y38 => F_retracelaw04_FrameBack_J2 y38) (cond (decide (255 < p1.Kind)) ((F_retracelaw04_live).bind fun y40 => F_retracelaw04_FrameBack_J2 y40) (F_retracelaw04_FrameBack_J2 false))) (F_retracelaw04_FrameBack_J2 false)) (grd (p0.size + y16.1.size ≤ 9223372036854775807) <| grd ((p0 ++ y16.1).size + p2.size ≤ 9223372036854775807) <| (F_frame_Next ((p0 ++ y16.1) ++ p2) (p0.size : Int)).bind fun y46 => cond (!((y46.1.Kind == p1.Kind) && ((y46.1.Data.toList == p1.Data.toList) && true))) (F_retracelaw04_FrameBack_J3 p2 true) (cond (y46.2.1 != (w64 ((p0.size : Int) + (y16.1.size : Int)))) (F_retracelaw04_FrameBack_J3 p2 true) (F_retracelaw04_FrameBack_J3 p2 (y46.2.2 != 0)))))
noncomputable def F_retracelaw04_FrameBack (p0 : ByteArray) (p1 : T_api_Frame) (p2 : ByteArray) : Option (Bool) :=
  cond (decide (300 < (p0.size : Int))) (F_retracelaw04_FrameBack_J1 p0 p1 p2 true) (cond (decide (300 < (p1.Data.size : Int))) (F_retracelaw04_FrameBack_J1 p0 p1 p2 true) (F_retracelaw04_FrameBack_J1 p0 p1 p2 (decide (300 < (p2.size : Int)))))
/- frame_Each -/
noncomputable def F_frame_Each (p0 : ByteArray) : Option (ByteArray) :=
  some p0
/- R_frame_All_0 -/
noncomputable def F_R_frame_All_0 (p0 : Int) (p1 : T_api_Frame) (o1_0 : ByteArray) (o4_0 : Int) (o3 : (List T_api_Frame)) : Option (Int × (List T_api_Frame)) :=
  grd (((o3).length + ([p1]).length) * 24 ≤ 140737488355328) <| (F_frame_Next o1_0 p0).bind fun y3 => some (y3.2.1, (o3 ++ [p1]))
/- frame_Each_1 -/
noncomputable def F_frame_Each_1_J1 (y7 : T_api_Frame × Int × Int) (x18 : Bool) (x19 : (List T_api_Frame)) (x20 : Int) : Option ((Int × (List T_api_Frame) × Int) ⊕ (Int × (List T_api_Frame))) :=
  cond x18 ((some (x20, x19)).map Sum.inr) (some (.inl (y7.2.1, x19, x20)))
noncomputable def F_frame_Each_1_L2 (o1_0 : ByteArray) (o5_0 : ByteArray) (x1 : Int) (x2 : (List T_api_Frame)) (x3 : Int) : Option ((Int × (List T_api_Frame) × Int) ⊕ (Int × (List T_api_Frame))) :=
  (F_frame_Next o5_0 x1).bind fun y7 => cond (y7.2.2 != 0) (F_frame_Each_1_J1 y7 true x2 x3) ((F_R_frame_All_0 x1 y7.1 o1_0 x3 x2).bind fun y25 => F_frame_Each_1_J1 y7 false y25.2 y25.1)
noncomputable def F_frame_Each_1 (o1_0 : ByteArray) (o4_0 : Int) (o5_0 : ByteArray) (o3 : (List T_api_Frame)) : Option (Int × (List T_api_Frame)) :=
  Loop (fun s : (Int × (List T_api_Frame) × Int) => F_frame_Each_1_L2 o1_0 o5_0 s.1 s.2.1 s.2.2) (0, o3, o4_0)
/- frame_All -/
noncomputable def F_frame_All (p0 : ByteArray) : Option ((List T_api_Frame) × Int × Int) :=
  (F_frame_Each p0).bind fun y5 => (F_frame_Each_1 p0 0 y5 ([] : List T_api_Frame)).bind fun y6 => cond (y6.1 == (p0.size : Int)) (some (y6.2, y6.1, 0)) ((F_frame_Next p0 y6.1).bind fun y10 => some (y6.2, y6.1, y10.2.2))
/- retraceref04_All -/
noncomputable def F_retraceref04_All_L1 (p0 : ByteArray) (x17 : Int) (x18 : (List T_api_Frame)) : Option ((Int × (List T_api_Frame)) ⊕ (T_retraceref04_List)) :=
  cond (decide (x17 < (p0.size : Int))) ((F_retraceref04_Next p0 x17).bind fun y24 => cond (y24.E != 0) ((some (⟨x18, x17, y24.E⟩ : T_retraceref04_List)).map Sum.inr) (grd (((x18).length + ([y24.F]).length) * 24 ≤ 140737488355328) <| some (.inl (y24.Next, (x18 ++ [y24.F]))))) ((some (⟨x18, x17, 0⟩ : T_retraceref04_List)).map Sum.inr)
noncomputable def F_retraceref04_All (p0 : ByteArray) : Option (T_retraceref04_List) :=
  Loop (fun s : (Int × (List T_api_Frame)) => F_retraceref04_All_L1 p0 s.1 s.2) (0, ([] : (List T_api_Frame)))
/- retraceref04_Same -/
noncomputable def F_retraceref04_Same_L1 (p0 : (List T_api_Frame)) (p1 : (List T_api_Frame)) (x22 : Int) : Option ((Int) ⊕ (Bool)) :=
  cond (decide (x22 < ((p0).length : Int))) ((lAt p0 x22).bind fun y34 => (lAt p1 x22).bind fun y35 => cond (!((y34.Kind == y35.Kind) && ((y34.Data.toList == y35.Data.toList) && true))) ((some false).map Sum.inr) (some (.inl (w64 (x22 + 1))))) ((some true).map Sum.inr)
noncomputable def F_retraceref04_Same (p0 : (List T_api_Frame)) (p1 : (List T_api_Frame)) : Option (Bool) :=
  cond (((p0).length : Int) != ((p1).length : Int)) (some false) (Loop (fun s : (Int) => F_retraceref04_Same_L1 p0 p1 s) 0)
/- retraceref04_Joined -/
noncomputable def F_retraceref04_Joined_L1 (p0 : (List T_api_Frame)) (x24 : ByteArray) (x25 : Int) (x26 : (List Int)) : Option ((ByteArray × Int × (List Int)) ⊕ (ByteArray × (List Int))) :=
  cond (decide (x25 < ((p0).length : Int))) (grd (((x26).length + ([(x24.size : Int)]).length) * 8 ≤ 140737488355328) <| (lAt p0 x25).bind fun y42 => (F_retraceref04_Bytes y42).bind fun y43 => grd (x24.size + y43.1.size ≤ 9223372036854775807) <| some (.inl ((x24 ++ y43.1), (w64 (x25 + 1)), (x26 ++ [(x24.size : Int)])))) ((grd (((x26).length + ([(x24.size : Int)]).length) * 8 ≤ 140737488355328) <| some (x24, (x26 ++ [(x24.size : Int)]))).map Sum.inr)
noncomputable def F_retraceref04_Joined (p0 : (List T_api_Frame)) : Option (ByteArray × (List Int)) :=
  Loop (fun s : (ByteArray × Int × (List Int)) => F_retraceref04_Joined_L1 p0 s.1 s.2.1 s.2.2) ((⟨#[]⟩ : ByteArray), 0, ([] : (List Int)))
/- R_retracelaw04_FrameAll_0 -/
noncomputable def F_R_retracelaw04_FrameAll_0_J1 (o1_0 : Int) (o6_0 : Int) (x15 : Bool) : Option ((Bool) ⊕ (Int) ⊕ (Int)) :=
  cond x15 (some (.inl false)) (cond ((w64 (o6_0 + 1)) == o1_0) (some (.inr (.inl (w64 (o6_0 + 1))))) (some (.inr (.inr (w64 (o6_0 + 1))))))
noncomputable def F_R_retracelaw04_FrameAll_0 (p0 : Int) (p1 : T_api_Frame) (o1_0 : Int) (o2_0 : Bool) (o3 : T_retraceref04_List) (o6_0 : Int) (o5 : (List Int)) : Option ((Bool) ⊕ (Int) ⊕ (Int)) :=
  cond (decide (((o3.L).length : Int) ≤ o6_0)) (F_R_retracelaw04_FrameAll_0_J1 o1_0 o6_0 true) ((lAt o3.L o6_0).bind fun y19 => cond (!((p1.Kind == y19.Kind) && ((p1.Data.toList == y19.Data.toList) && true))) (F_R_retracelaw04_FrameAll_0_J1 o1_0 o6_0 true) ((lAt o5 o6_0).bind fun y21 => F_R_retracelaw04_FrameAll_0_J1 o1_0 o6_0 (p0 != y21)))
/- frame_Each_1_v2 -/
noncomputable def F_frame_Each_1_v2_J1 (y6 : T_api_Frame × Int × Int) (x27 : Bool) (x28 : Int) : Option ((Int × Int) ⊕ ((Int) ⊕ (Bool × Int) ⊕ (Int))) :=
  cond x27 ((some (.inl x28)).map Sum.inr) (some (.inl (y6.2.1, x28)))
noncomputable def F_frame_Each_1_v2_J2 (x2 : Int) (x32 : Bool) : Option ((Int × Int) ⊕ ((Int) ⊕ (Bool × Int) ⊕ (Int))) :=
  (some (.inr (.inl (x32, x2)))).map Sum.inr
noncomputable def F_frame_Each_1_v2_J3 (x35 : Int) : Option ((Int × Int) ⊕ ((Int) ⊕ (Bool × Int) ⊕ (Int))) :=
  (some (.inr (.inr x35))).map Sum.inr
noncomputable def F_frame_Each_1_v2_L4 (o1_0 : Int) (o2_0 : Bool) (o3 : T_retraceref04_List) (o7_0 : ByteArray) (o5 : (List Int)) (x1 : Int) (x2 : Int) : Option ((Int × Int) ⊕ ((Int) ⊕ (Bool × Int) ⊕ (Int))) :=
  (F_frame_Next o7_0 x1).bind fun y6 => cond (y6.2.2 != 0) (F_frame_Each_1_v2_J1 y6 true x2) ((F_R_retracelaw04_FrameAll_0 x1 y6.1 o1_0 o2_0 o3 x2 o5).bind fun y39 => (Sum.elim (fun y40 => F_frame_Each_1_v2_J2 x2 y40) (Sum.elim (fun y41 => F_frame_Each_1_v2_J3 y41) (fun y42 => F_frame_Each_1_v2_J1 y6 false y42))) y39)
noncomputable def F_frame_Each_1_v2 (o1_0 : Int) (o2_0 : Bool) (o3 : T_retraceref04_List) (o6_0 : Int) (o7_0 : ByteArray) (o5 : (List Int)) : Option ((Int) ⊕ (Bool × Int) ⊕ (Int)) :=
  Loop (fun s : (Int × Int) => F_frame_Each_1_v2_L4 o1_0 o2_0 o3 o7_0 o5 s.1 s.2) (0, o6_0)
/- retracelaw04_FrameAll -/
noncomputable def F_retracelaw04_FrameAll_J4 (x45 : Bool) : Option (Bool) :=
  some x45
noncomputable def F_retracelaw04_FrameAll_J3 (p1 : Int) (y18 : T_retraceref04_List) (x40 : Int) : Option (Bool) :=
  cond (x40 == ((y18.L).length : Int)) ((F_retracelaw04_live).bind fun y47 => F_retracelaw04_FrameAll_J4 y47) (cond (x40 == p1) ((F_retracelaw04_live).bind fun y49 => F_retracelaw04_FrameAll_J4 y49) (F_retracelaw04_FrameAll_J4 false))
noncomputable def F_retracelaw04_FrameAll_J2 (p0 : ByteArray) (p1 : Int) (y18 : T_retraceref04_List) (x30 : Bool) : Option (Bool) :=
  cond x30 (some false) ((F_retraceref04_Joined y18.L).bind fun y33 => (F_frame_Each p0).bind fun y35 => (F_frame_Each_1_v2 p1 false y18 0 y35 y33.2).bind fun y50 => (Sum.elim (fun y51 => F_retracelaw04_FrameAll_J3 p1 y18 y51) (Sum.elim (fun y52 => some y52.1) (fun y53 => F_retracelaw04_FrameAll_J3 p1 y18 y53))) y50)
noncomputable def F_retracelaw04_FrameAll_J1 (p0 : ByteArray) (p1 : Int) (x11 : Bool) : Option (Bool) :=
  cond x11 ((F_retracelaw04_live).bind fun y14 => some y14) ((F_frame_All p0).bind fun y16 => (F_retraceref04_All p0).bind fun y18 => (F_retraceref04_Same y16.1 y18.L).bind fun y54 => cond (!y54) (F_retracelaw04_FrameAll_J2 p0 p1 y18 true) (cond (y16.2.1 != y18.At) (F_retracelaw04_FrameAll_J2 p0 p1 y18 true) (F_retracelaw04_FrameAll_J2 p0 p1 y18 (y16.2.2 != y18.E))))
noncomputable def F_retracelaw04_FrameAll (p0 : ByteArray) (p1 : Int) : Option (Bool) :=
  cond (decide (3000 < (p0.size : Int))) (F_retracelaw04_FrameAll_J1 p0 p1 true) ((F_retracelaw04_live).bind fun y58 => F_retracelaw04_FrameAll_J1 p0 p1 (!y58))
/- retracelaw04_large -/
noncomputable def F_retracelaw04_large_J1 (p0 : (List T_api_Frame)) (x22 : Int) (x30 : Bool) : Option ((Int) ⊕ (Bool)) :=
  cond x30 ((lAt p0 x22).bind fun y36 => cond (decide (300 < (y36.Data.size : Int))) ((some true).map Sum.inr) (some (.inl (w64 (x22 + 1))))) ((some (decide (20 < ((p0).length : Int)))).map Sum.inr)
noncomputable def F_retracelaw04_large_L2 (p0 : (List T_api_Frame)) (x22 : Int) : Option ((Int) ⊕ (Bool)) :=
  cond (decide (x22 < ((p0).length : Int))) (F_retracelaw04_large_J1 p0 x22 (decide (x22 < 20))) (F_retracelaw04_large_J1 p0 x22 false)
noncomputable def F_retracelaw04_large (p0 : (List T_api_Frame)) : Option (Bool) :=
  Loop (fun s : (Int) => F_retracelaw04_large_L2 p0 s) 0
/- retraceref04_Right -/
noncomputable def F_retraceref04_Right_J1 (x26 : Int) (x42 : Bool) : Option ((Int) ⊕ (Bool)) :=
  cond x42 ((some false).map Sum.inr) (some (.inl (w64 (x26 + 1))))
noncomputable def F_retraceref04_Right_L2 (p0 : (List T_api_Frame)) (x26 : Int) : Option ((Int) ⊕ (Bool)) :=
  cond (decide (x26 < ((p0).length : Int))) ((lAt p0 x26).bind fun y46 => cond (decide (y46.Kind < 0)) (F_retraceref04_Right_J1 x26 true) ((lAt p0 x26).bind fun y48 => F_retraceref04_Right_J1 x26 (decide (255 < y48.Kind)))) ((some true).map Sum.inr)
noncomputable def F_retraceref04_Right (p0 : (List T_api_Frame)) : Option (Bool) :=
  Loop (fun s : (Int) => F_retraceref04_Right_L2 p0 s) 0
/- retracelaw04_FrameCuts -/
noncomputable def F_retracelaw04_FrameCuts_J4 (x75 : Bool) : Option (Bool) :=
  some x75
noncomputable def F_retracelaw04_FrameCuts_J3 (p0 : (List T_api_Frame)) (p1 : Int) (y19 : ByteArray × (List Int)) (x48 : Int) (x59 : Bool) : Option ((Int) ⊕ (Bool)) :=
  cond x59 (some (.inl (w64 (x48 + 1)))) ((grd ((0 : Int) ≤ 0 ∧ 0 ≤ p1 ∧ p1 ≤ (y19.1.size : Int)) <| (F_frame_All (y19.1.extract (Int.toNat 0) (Int.toNat p1))).bind fun y66 => grd ((0 : Int) ≤ 0 ∧ 0 ≤ x48 ∧ x48 ≤ ((p0).length : Int)) <| (F_retraceref04_Same y66.1 (lCut p0 0 x48)).bind fun y77 => cond y77 ((lAt y19.2 x48).bind fun y79 => cond (y66.2.1 == y79) ((lAt y19.2 x48).bind fun y81 => cond ((y66.2.2 == 0) == (p1 == y81)) ((F_retracelaw04_live).bind fun y83 => F_retracelaw04_FrameCuts_J4 y83) (F_retracelaw04_FrameCuts_J4 false)) (F_retracelaw04_FrameCuts_J4 false)) (F_retracelaw04_FrameCuts_J4 false)).map Sum.inr)
noncomputable def F_retracelaw04_FrameCuts_L5 (p0 : (List T_api_Frame)) (p1 : Int) (y19 : ByteArray × (List Int)) (x48 : Int) : Option ((Int) ⊕ (Bool)) :=
  cond (decide (x48 < ((p0).length : Int))) ((lAt y19.2 (w64 (x48 + 1))).bind fun y85 => F_retracelaw04_FrameCuts_J3 p0 p1 y19 x48 (decide (y85 ≤ p1))) (F_retracelaw04_FrameCuts_J3 p0 p1 y19 x48 false)
noncomputable def F_retracelaw04_FrameCuts_J2 (p0 : (List T_api_Frame)) (p1 : Int) (y19 : ByteArray × (List Int)) (x27 : Bool) : Option (Bool) :=
  cond x27 ((F_retracelaw04_live).bind fun y30 => some y30) (Loop (fun s : (Int) => F_retracelaw04_FrameCuts_L5 p0 p1 y19 s) 0)
noncomputable def F_retracelaw04_FrameCuts_J1 (p0 : (List T_api_Frame)) (p1 : Int) (x14 : Bool) : Option (Bool) :=
  cond x14 ((F_retracelaw04_live).bind fun y17 => some y17) ((F_retraceref04_Joined p0).bind fun y19 => cond (decide (p1 < 0)) (F_retracelaw04_FrameCuts_J2 p0 p1 y19 true) (F_retracelaw04_FrameCuts_J2 p0 p1 y19 (decide ((y19.1.size : Int) < p1))))
noncomputable def F_retracelaw04_FrameCuts (p0 : (List T_api_Frame)) (p1 : Int) : Option (Bool) :=
  (F_retracelaw04_large p0).bind fun y87 => cond y87 (F_retracelaw04_FrameCuts_J1 p0 p1 true) ((F_retraceref04_Right p0).bind fun y89 => F_retracelaw04_FrameCuts_J1 p0 p1 (!y89))
/- retraceref02_Turned -/
noncomputable def F_retraceref02_Turned_J1 (x34 : Int) (x51 : (List Int)) : Option ((Int × (List Int)) ⊕ (ByteArray)) :=
  some (.inl ((w64 (x34 + 1)), x51))
noncomputable def F_retraceref02_Turned_J2 (p1 : Int) (x34 : Int) (x35 : (List Int)) (x55 : Bool) : Option ((Int × (List Int)) ⊕ (ByteArray)) :=
  cond x55 ((lAt x35 (w64 (Int.tdiv (w64 (p1 + x34)) 8))).bind fun y57 => grd ((0 : Int) ≤ (wu64 (Int.tmod (w64 (p1 + x34)) 8))) <| grd ((0 : Int) ≤ (w64 (Int.tdiv (w64 (p1 + x34)) 8)) ∧ (w64 (Int.tdiv (w64 (p1 + x34)) 8)) < (x35).length) <| F_retraceref02_Turned_J1 x34 (List.set x35 (Int.toNat (w64 (Int.tdiv (w64 (p1 + x34)) 8))) (bits .xor .u8 y57 (wu8 (1 * 2 ^ (min (Int.toNat (wu64 (Int.tmod (w64 (p1 + x34)) 8))) 8)))))) (F_retraceref02_Turned_J1 x34 x35)
noncomputable def F_retraceref02_Turned_L3 (p1 : Int) (p2 : Int) (x34 : Int) (x35 : (List Int)) : Option ((Int × (List Int)) ⊕ (ByteArray)) :=
  cond (decide (x34 < 32)) (grd ((0 : Int) ≤ (wu64 x34)) <| cond ((bits .and .u32 (Int.fdiv p2 (2 ^ (min (Int.toNat (wu64 x34)) 32))) 1) == 1) (cond (decide (0 ≤ (w64 (p1 + x34)))) (F_retraceref02_Turned_J2 p1 x34 x35 (decide ((w64 (p1 + x34)) < (w64 (8 * ((x35).length : Int)))))) (F_retraceref02_Turned_J2 p1 x34 x35 false)) (F_retraceref02_Turned_J2 p1 x34 x35 false)) ((some (strOfNums x35)).map Sum.inr)
noncomputable def F_retraceref02_Turned (p0 : ByteArray) (p1 : Int) (p2 : Int) : Option (ByteArray) :=
  grd (p0.size ≤ 281474976710656) <| Loop (fun s : (Int × (List Int)) => F_retraceref02_Turned_L3 p1 p2 s.1 s.2) (0, (sB p0))
/- retracelaw04_FrameBursts -/
noncomputable def F_retracelaw04_FrameBursts_J3 (x77 : Bool) : Option (Bool) :=
  some x77
noncomputable def F_retracelaw04_FrameBursts_J4 (x89 : Bool) : Option (Bool) :=
  some x89
noncomputable def F_retracelaw04_FrameBursts_J2 (p0 : (List T_api_Frame)) (p1 : Int) (p2 : Int) (p3 : Int) (y25 : ByteArray × (List Int)) (y28 : Int) (y29 : T_api_Frame) (x40 : Bool) : Option (Bool) :=
  cond x40 ((F_retracelaw04_live).bind fun y43 => some y43) (grd ((0 : Int) ≤ 0 ∧ 0 ≤ (w64 ((w64 (y28 - 4)) - (y29.Data.size : Int))) ∧ (w64 ((w64 (y28 - 4)) - (y29.Data.size : Int))) ≤ (y25.1.size : Int)) <| (lAt y25.2 (w64 (p1 + 1))).bind fun y53 => grd ((0 : Int) ≤ (w64 ((w64 (y28 - 4)) - (y29.Data.size : Int))) ∧ (w64 ((w64 (y28 - 4)) - (y29.Data.size : Int))) ≤ y53 ∧ y53 ≤ (y25.1.size : Int)) <| (F_retraceref02_Turned (y25.1.extract (Int.toNat (w64 ((w64 (y28 - 4)) - (y29.Data.size : Int)))) (Int.toNat y53)) p2 p3).bind fun y55 => grd ((y25.1.extract (Int.toNat 0) (Int.toNat (w64 ((w64 (y28 - 4)) - (y29.Data.size : Int))))).size + y55.size ≤ 9223372036854775807) <| (lAt y25.2 (w64 (p1 + 1))).bind fun y57 => grd ((0 : Int) ≤ y57 ∧ y57 ≤ (y25.1.size : Int) ∧ (y25.1.size : Int) ≤ (y25.1.size : Int)) <| grd (((y25.1.extract (Int.toNat 0) (Int.toNat (w64 ((w64 (y28 - 4)) - (y29.Data.size : Int))))) ++ y55).size + (y25.1.extract (Int.toNat y57) (Int.toNat (y25.1.size : Int))).size ≤ 9223372036854775807) <| (F_frame_All (((y25.1.extract (Int.toNat 0) (Int.toNat (w64 ((w64 (y28 - 4)) - (y29.Data.size : Int))))) ++ y55) ++ (y25.1.extract (Int.toNat y57) (Int.toNat (y25.1.size : Int))))).bind fun y61 => cond ((((y25.1.extract (Int.toNat 0) (Int.toNat (w64 ((w64 (y28 - 4)) - (y29.Data.size : Int))))) ++ y55) ++ (y25.1.extract (Int.toNat y57) (Int.toNat (y25.1.size : Int)))).toList == y25.1.toList) ((F_retraceref04_Same y61.1 p0).bind fun y78 => cond y78 (cond (y61.2.2 == 0) ((F_retracelaw04_live).bind fun y81 => F_retracelaw04_FrameBursts_J3 y81) (F_retracelaw04_FrameBursts_J3 false)) (F_retracelaw04_FrameBursts_J3 false)) (grd ((0 : Int) ≤ 0 ∧ 0 ≤ p1 ∧ p1 ≤ ((p0).length : Int)) <| (F_retraceref04_Same y61.1 (lCut p0 0 p1)).bind fun y91 => cond y91 ((lAt y25.2 p1).bind fun y93 => cond (y61.2.1 == y93) (cond (y61.2.2 == 4) ((F_retracelaw04_live).bind fun y96 => F_retracelaw04_FrameBursts_J4 y96) (F_retracelaw04_FrameBursts_J4 false)) (F_retracelaw04_FrameBursts_J4 false)) (F_retracelaw04_FrameBursts_J4 false)))
noncomputable def F_retracelaw04_FrameBursts_J1 (p0 : (List T_api_Frame)) (p1 : Int) (p2 : Int) (p3 : Int) (x20 : Bool) : Option (Bool) :=
  cond x20 ((F_retracelaw04_live).bind fun y23 => some y23) ((F_retraceref04_Joined p0).bind fun y25 => (lAt y25.2 (w64 (p1 + 1))).bind fun y28 => (lAt p0 p1).bind fun y29 => cond (decide (p2 < 0)) (F_retracelaw04_FrameBursts_J2 p0 p1 p2 p3 y25 y28 y29 true) ((lAt p0 p1).bind fun y98 => F_retracelaw04_FrameBursts_J2 p0 p1 p2 p3 y25 y28 y29 (decide ((w64 (8 * (w64 ((y98.Data.size : Int) + 4)))) ≤ p2))))
noncomputable def F_retracelaw04_FrameBursts (p0 : (List T_api_Frame)) (p1 : Int) (p2 : Int) (p3 : Int) : Option (Bool) :=
  (F_retracelaw04_large p0).bind fun y99 => cond y99 (F_retracelaw04_FrameBursts_J1 p0 p1 p2 p3 true) ((F_retraceref04_Right p0).bind fun y101 => cond (!y101) (F_retracelaw04_FrameBursts_J1 p0 p1 p2 p3 true) (cond (decide (p1 < 0)) (F_retracelaw04_FrameBursts_J1 p0 p1 p2 p3 true) (F_retracelaw04_FrameBursts_J1 p0 p1 p2 p3 (decide (((p0).length : Int) ≤ p1)))))

theorem mixedOrd : Try.prog.follows .mixedOrders = true := by kernel_rfl
end Go.Ab
