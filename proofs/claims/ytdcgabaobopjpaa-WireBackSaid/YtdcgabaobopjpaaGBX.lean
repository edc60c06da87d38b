import Derived.Test.YtdcgabaobopjpaaGB
import Derived.Test.YtdcgabaobopjpaaAbEval
namespace Go.Ab
open Go.Proofs
set_option linter.unusedVariables false
noncomputable def X_vint_Zig (p0 : Int) : Option (Int) :=
  some (bits .xor .u64 (wu64 ((wu64 p0) * 2)) (wu64 (Int.fdiv p0 9223372036854775808)))
noncomputable def X_vint_Size_L1 (x9 : Int) (x10 : Int) : Option ((Int × Int) ⊕ (Int)) :=
  cond (decide (128 ≤ x9)) (some (.inl ((Int.fdiv x9 128), (w64 (x10 + 1))))) ((some x10).map Sum.inr)
noncomputable def X_vint_Size (p0 : Int) : Option (Int) :=
  Loopx (fun s : (Int × Int) => X_vint_Size_L1 s.1 s.2) (p0, 1)
noncomputable def X_vint_Put_L1 (x17 : Int) (x18 : (List Int)) : Option ((Int × (List Int)) ⊕ (ByteArray)) :=
  cond (decide (128 ≤ x17)) (grd (((x18).length + ([(bits .or .u8 (wu8 x17) 128)]).length) * 1 ≤ 140737488355328) <| some (.inl ((Int.fdiv x17 128), (x18 ++ [(bits .or .u8 (wu8 x17) 128)])))) ((grd (((x18).length + ([(wu8 x17)]).length) * 1 ≤ 140737488355328) <| some (strOfNums (x18 ++ [(wu8 x17)]))).map Sum.inr)
noncomputable def X_vint_Put (p0 : ByteArray) (p1 : Int) : Option (ByteArray) :=
  (X_vint_Size p1).bind fun y3 => grd ((0 : Int) ≤ 0 ∧ 0 ≤ (w64 ((p0.size : Int) + y3)) ∧ (w64 ((p0.size : Int) + y3)) ≤ 281474976710656 ∧ (1 : Int) * (w64 ((p0.size : Int) + y3)) ≤ 281474976710656) <| grd (((([] : List Int)).length + p0.size) * 1 ≤ 140737488355328) <| Loopx (fun s : (Int × (List Int)) => X_vint_Put_L1 s.1 s.2) (p1, (([] : List Int) ++ (sB p0)))
noncomputable def X_vint_PutInt (p0 : ByteArray) (p1 : Int) : Option (ByteArray) :=
  (X_vint_Zig p1).bind fun y3 => (X_vint_Put p0 y3).bind fun y4 => some y4
noncomputable def X_wire_Writer_add (p1 : ByteArray) (o0 : T_wire_Writer) : Option (T_wire_Writer) :=
  grd (((o0.s).length + p1.size) * 1 ≤ 140737488355328) <| some (⟨(o0.s ++ (sB p1))⟩ : T_wire_Writer)
noncomputable def X_wire_Writer_Int (p1 : Int) (o0 : T_wire_Writer) : Option (T_wire_Writer) :=
  (X_vint_PutInt (⟨#[]⟩ : ByteArray) p1).bind fun y1 => (X_wire_Writer_add y1 o0).bind fun y2 => some y2
noncomputable def X_wire_Writer_Num (p1 : Int) (o0 : T_wire_Writer) : Option (T_wire_Writer) :=
  (X_vint_Put (⟨#[]⟩ : ByteArray) p1).bind fun y1 => (X_wire_Writer_add y1 o0).bind fun y2 => some y2
noncomputable def X_wire_Writer_Text (p1 : ByteArray) (o0 : T_wire_Writer) : Option (T_wire_Writer) :=
  (X_wire_Writer_Num (wu64 (p1.size : Int)) o0).bind fun y2 => (X_wire_Writer_add p1 y2).bind fun y3 => some y3
noncomputable def X_wire_Writer_Bool (p1 : Bool) (o0 : T_wire_Writer) : Option (T_wire_Writer) :=
  cond p1 ((X_wire_Writer_add (⟨#[1]⟩ : ByteArray) o0).bind fun y2 => some y2) ((X_wire_Writer_add (⟨#[0]⟩ : ByteArray) o0).bind fun y3 => some y3)
noncomputable def X_wire_Writer_Bytes (o0 : T_wire_Writer) : Option (ByteArray) :=
  some (strOfNums o0.s)
noncomputable def X_wire_Open (p0 : ByteArray) : Option (T_wire_Reader) :=
  some (⟨p0, 0⟩ : T_wire_Reader)
noncomputable def X_vint_Get_J2 (x90 : Int) : Option (Int × Int × Int) :=
  some (0, 0, x90)
noncomputable def X_vint_Get_J3 (p1 : Int) (x95 : Int) (x96 : Int) (y135 : Int) (x156 : Bool) : Option ((Int × Int) ⊕ (Int × Int × Int)) :=
  cond x156 ((X_vint_Get_J2 3).map Sum.inr) (cond (decide (y135 < 128)) (grd ((0 : Int) ≤ (w64 (7 * x96))) <| (some ((bits .or .u64 x95 (wu64 ((wu64 y135) * 2 ^ (min (Int.toNat (w64 (7 * x96))) 64)))), (w64 ((w64 (p1 + x96)) + 1)), 0)).map Sum.inr) (grd ((0 : Int) ≤ (w64 (7 * x96))) <| some (.inl ((bits .or .u64 x95 (wu64 ((wu64 (bits .and .u8 y135 127)) * 2 ^ (min (Int.toNat (w64 (7 * x96))) 64)))), (w64 (x96 + 1))))))
noncomputable def X_vint_Get_J4 (p1 : Int) (x95 : Int) (x96 : Int) (y135 : Int) (x167 : Bool) : Option ((Int × Int) ⊕ (Int × Int × Int)) :=
  cond x167 (X_vint_Get_J3 p1 x95 x96 y135 x167) (cond (decide (0 < x96)) (X_vint_Get_J3 p1 x95 x96 y135 (y135 == 0)) (X_vint_Get_J3 p1 x95 x96 y135 false))
noncomputable def X_vint_Get_L5 (p0 : ByteArray) (p1 : Int) (x95 : Int) (x96 : Int) : Option ((Int × Int) ⊕ (Int × Int × Int)) :=
  cond (decide (x96 < (((sB (p0.extract (Int.toNat p1) (Int.toNat (p0.size : Int))))).length : Int))) ((lAt (sB (p0.extract (Int.toNat p1) (Int.toNat (p0.size : Int)))) x96).bind fun y135 => cond (x96 == 9) (X_vint_Get_J4 p1 x95 x96 y135 (decide (1 < y135))) (X_vint_Get_J4 p1 x95 x96 y135 false)) ((X_vint_Get_J2 2).map Sum.inr)
noncomputable def X_vint_Get_J1 (p0 : ByteArray) (p1 : Int) (x6 : Bool) : Option (Int × Int × Int) :=
  cond x6 (some (0, 0, 1)) (grd ((0 : Int) ≤ p1 ∧ p1 ≤ (p0.size : Int) ∧ (p0.size : Int) ≤ (p0.size : Int)) <| grd ((p0.extract (Int.toNat p1) (Int.toNat (p0.size : Int))).size ≤ 281474976710656) <| Loopx (fun s : (Int × Int) => X_vint_Get_L5 p0 p1 s.1 s.2) (0, 0))
noncomputable def X_vint_Get (p0 : ByteArray) (p1 : Int) : Option (Int × Int × Int) :=
  cond (decide (p1 < 0)) (X_vint_Get_J1 p0 p1 true) (X_vint_Get_J1 p0 p1 (decide ((p0.size : Int) < p1)))
noncomputable def X_vint_Zag (p0 : Int) : Option (Int) :=
  some (bits .xor .i64 (w64 (Int.fdiv p0 2)) (w64 (0 - (w64 (bits .and .u64 p0 1)))))
noncomputable def X_vint_GetInt (p0 : ByteArray) (p1 : Int) : Option (Int × Int × Int) :=
  (X_vint_Get p0 p1).bind fun y2 => (X_vint_Zag y2.1).bind fun y4 => some (y4, y2.2.1, y2.2.2)
noncomputable def X_wire_Reader_Int_1 (p0 : ByteArray) (o0_0 : Int) : Option (Int × Int × Int) :=
  (X_vint_GetInt p0 0).bind fun y2 => some (y2.2.1, y2.2.2, y2.1)
noncomputable def X_wire_Reader_step (o0 : T_wire_Reader) (o1_0 : Int) : Option (Bool × T_wire_Reader × Int) :=
  cond (o0.e != 0) (some (false, o0, o1_0)) ((X_wire_Reader_Int_1 o0.s o1_0).bind fun y4 => cond (y4.2.1 != 0) (some (false, (⟨o0.s, y4.2.1⟩ : T_wire_Reader), y4.2.2)) (grd ((0 : Int) ≤ y4.1 ∧ y4.1 ≤ (o0.s.size : Int) ∧ (o0.s.size : Int) ≤ (o0.s.size : Int)) <| some (true, (⟨(o0.s.extract (Int.toNat y4.1) (Int.toNat (o0.s.size : Int))), o0.e⟩ : T_wire_Reader), y4.2.2)))
noncomputable def X_wire_Reader_Int (o0 : T_wire_Reader) : Option (Int × T_wire_Reader) :=
  (X_wire_Reader_step o0 0).bind fun y2 => some (y2.2.2, y2.2.1)
noncomputable def X_wire_Reader_Upto_1_J1 (y2 : Int × Int × Int) (x11 : Bool) : Option (Int × Int × Int) :=
  cond x11 (some (0, 6, y2.1)) (some (y2.2.1, y2.2.2, y2.1))
noncomputable def X_wire_Reader_Upto_1 (p0 : ByteArray) (o0_0 : Int) (o1_0 : Int) : Option (Int × Int × Int) :=
  (X_vint_Get p0 0).bind fun y2 => cond (y2.2.2 == 0) (cond (decide (o1_0 < 0)) (X_wire_Reader_Upto_1_J1 y2 true) (X_wire_Reader_Upto_1_J1 y2 (decide ((wu64 o1_0) < y2.1)))) (X_wire_Reader_Upto_1_J1 y2 false)
noncomputable def X_wire_Reader_step_v2 (o0 : T_wire_Reader) (o1_0 : Int) (o2_0 : Int) : Option (Bool × T_wire_Reader × Int) :=
  cond (o0.e != 0) (some (false, o0, o1_0)) ((X_wire_Reader_Upto_1 o0.s o1_0 o2_0).bind fun y4 => cond (y4.2.1 != 0) (some (false, (⟨o0.s, y4.2.1⟩ : T_wire_Reader), y4.2.2)) (grd ((0 : Int) ≤ y4.1 ∧ y4.1 ≤ (o0.s.size : Int) ∧ (o0.s.size : Int) ≤ (o0.s.size : Int)) <| some (true, (⟨(o0.s.extract (Int.toNat y4.1) (Int.toNat (o0.s.size : Int))), o0.e⟩ : T_wire_Reader), y4.2.2)))
noncomputable def X_wire_Reader_Upto (p1 : Int) (o0 : T_wire_Reader) : Option (Int × T_wire_Reader) :=
  (X_wire_Reader_step_v2 o0 0 p1).bind fun y2 => cond (!y2.1) (some (0, y2.2.1)) (some ((w64 y2.2.2), y2.2.1))
noncomputable def X_wire_Reader_Raw_1 (p0 : ByteArray) (o0_0 : Int) (o1_0 : ByteArray) : Option (Int × Int × ByteArray) :=
  cond (decide (o0_0 < 0)) (some (0, 1, o1_0)) (cond (decide ((p0.size : Int) < o0_0)) (some (0, 2, o1_0)) (grd ((0 : Int) ≤ 0 ∧ 0 ≤ o0_0 ∧ o0_0 ≤ (p0.size : Int)) <| some (o0_0, 0, (p0.extract (Int.toNat 0) (Int.toNat o0_0)))))
noncomputable def X_wire_Reader_step_v3 (o0 : T_wire_Reader) (o1_0 : Int) (o2_0 : ByteArray) : Option (Bool × T_wire_Reader × ByteArray) :=
  cond (o0.e != 0) (some (false, o0, o2_0)) ((X_wire_Reader_Raw_1 o0.s o1_0 o2_0).bind fun y4 => cond (y4.2.1 != 0) (some (false, (⟨o0.s, y4.2.1⟩ : T_wire_Reader), y4.2.2)) (grd ((0 : Int) ≤ y4.1 ∧ y4.1 ≤ (o0.s.size : Int) ∧ (o0.s.size : Int) ≤ (o0.s.size : Int)) <| some (true, (⟨(o0.s.extract (Int.toNat y4.1) (Int.toNat (o0.s.size : Int))), o0.e⟩ : T_wire_Reader), y4.2.2)))
noncomputable def X_wire_Reader_Raw (p1 : Int) (o0 : T_wire_Reader) : Option (ByteArray × T_wire_Reader) :=
  (X_wire_Reader_step_v3 o0 p1 (⟨#[]⟩ : ByteArray)).bind fun y2 => some (y2.2.2, y2.2.1)
noncomputable def X_wire_Reader_Text (p1 : Int) (o0 : T_wire_Reader) : Option (ByteArray × T_wire_Reader) :=
  (X_wire_Reader_Upto p1 o0).bind fun y3 => (X_wire_Reader_Raw y3.1 y3.2).bind fun y4 => some (y4.1, y4.2)
noncomputable def X_wire_Reader_Bool_1 (p0 : ByteArray) (o0_0 : Int) : Option (Int × Int × Int) :=
  cond (p0.toList == (⟨#[]⟩ : ByteArray).toList) (some (0, 2, o0_0)) ((sAt p0 0).bind fun y7 => cond (decide (1 < y7)) (some (0, 3, y7)) (some (1, 0, y7)))
noncomputable def X_wire_Reader_step_v4 (o0 : T_wire_Reader) (o1_0 : Int) : Option (Bool × T_wire_Reader × Int) :=
  cond (o0.e != 0) (some (false, o0, o1_0)) ((X_wire_Reader_Bool_1 o0.s o1_0).bind fun y4 => cond (y4.2.1 != 0) (some (false, (⟨o0.s, y4.2.1⟩ : T_wire_Reader), y4.2.2)) (grd ((0 : Int) ≤ y4.1 ∧ y4.1 ≤ (o0.s.size : Int) ∧ (o0.s.size : Int) ≤ (o0.s.size : Int)) <| some (true, (⟨(o0.s.extract (Int.toNat y4.1) (Int.toNat (o0.s.size : Int))), o0.e⟩ : T_wire_Reader), y4.2.2)))
noncomputable def X_wire_Reader_Bool_J1 (y2 : Bool × T_wire_Reader × Int) (x4 : Bool) : Option (Bool × T_wire_Reader) :=
  some (x4, y2.2.1)
noncomputable def X_wire_Reader_Bool (o0 : T_wire_Reader) : Option (Bool × T_wire_Reader) :=
  (X_wire_Reader_step_v4 o0 0).bind fun y2 => cond y2.1 (X_wire_Reader_Bool_J1 y2 (y2.2.2 == 1)) (X_wire_Reader_Bool_J1 y2 false)
noncomputable def X_wire_Reader_Err (o0 : T_wire_Reader) : Option (Int) :=
  some o0.e
noncomputable def X_wire_Reader_Left (o0 : T_wire_Reader) : Option (Int) :=
  some (o0.s.size : Int)
noncomputable def X_wire_Reader_End_J1 (y10 : Int) (x13 : Bool) : Option (Int) :=
  cond x13 (some y10) (some 3)
noncomputable def X_wire_Reader_End (o0 : T_wire_Reader) : Option (Int) :=
  (X_wire_Reader_Err o0).bind fun y10 => cond (y10 != 0) (X_wire_Reader_End_J1 y10 true) ((X_wire_Reader_Left o0).bind fun y16 => X_wire_Reader_End_J1 y10 (y16 == 0))
noncomputable def X_retracelaw03_live_J1 (x20 : Bool) : Option (Bool) :=
  some x20
noncomputable def X_retracelaw03_live  : Option (Bool) :=
  (X_wire_Writer_Int (-1) (⟨([] : List Int)⟩ : T_wire_Writer)).bind fun y2 => (X_wire_Writer_Text (⟨#[97, 98]⟩ : ByteArray) y2).bind fun y4 => (X_wire_Writer_Bool true y4).bind fun y6 => (X_wire_Writer_Bytes y6).bind fun y9 => (X_wire_Open y9).bind fun y10 => (X_wire_Writer_Bytes y6).bind fun y21 => cond (y21.toList == (⟨#[1, 2, 97, 98, 1]⟩ : ByteArray).toList) ((X_wire_Reader_Int y10).bind fun y23 => cond (y23.1 == (-1)) ((X_wire_Reader_Text 2 y23.2).bind fun y25 => cond (y25.1.toList == (⟨#[97, 98]⟩ : ByteArray).toList) ((X_wire_Reader_Bool y25.2).bind fun y27 => cond y27.1 ((X_wire_Reader_End y27.2).bind fun y29 => X_retracelaw03_live_J1 (y29 == 0)) (X_retracelaw03_live_J1 false)) (X_retracelaw03_live_J1 false)) (X_retracelaw03_live_J1 false)) (X_retracelaw03_live_J1 false)
theorem LE_vint_Zig (p0 : Int) : Le (X_vint_Zig p0) (F_vint_Zig p0) := by
  unfold X_vint_Zig F_vint_Zig
  repeat' with_reducible first
    | exact Le.non _
    | exact Le.rf _
    | refine Le.grd ?_
    | refine Le.bind ?_ (fun _ => ?_)
    | refine Le.cond ?_ ?_
    | refine Le.map ?_
    | refine Le.elim (fun _ => ?_) (fun _ => ?_)
    | refine Le.loop (fun _ => ?_)
    | refine Le.loopF (fun _ => ?_)
theorem LE_vint_Size_L1 (x9 : Int) (x10 : Int) : Le (X_vint_Size_L1 x9 x10) (F_vint_Size_L1 x9 x10) := by
  unfold X_vint_Size_L1 F_vint_Size_L1
  repeat' with_reducible first
    | exact Le.non _
    | exact Le.rf _
    | refine Le.grd ?_
    | refine Le.bind ?_ (fun _ => ?_)
    | refine Le.cond ?_ ?_
    | refine Le.map ?_
    | refine Le.elim (fun _ => ?_) (fun _ => ?_)
    | refine Le.loop (fun _ => ?_)
    | refine Le.loopF (fun _ => ?_)
theorem LE_vint_Size (p0 : Int) : Le (X_vint_Size p0) (F_vint_Size p0) := by
  unfold X_vint_Size F_vint_Size
  repeat' with_reducible first
    | apply LE_vint_Size_L1
    | exact Le.non _
    | exact Le.rf _
    | refine Le.grd ?_
    | refine Le.bind ?_ (fun _ => ?_)
    | refine Le.cond ?_ ?_
    | refine Le.map ?_
    | refine Le.elim (fun _ => ?_) (fun _ => ?_)
    | refine Le.loop (fun _ => ?_)
    | refine Le.loopF (fun _ => ?_)
theorem LE_vint_Put_L1 (x17 : Int) (x18 : (List Int)) : Le (X_vint_Put_L1 x17 x18) (F_vint_Put_L1 x17 x18) := by
  unfold X_vint_Put_L1 F_vint_Put_L1
  repeat' with_reducible first
    | exact Le.non _
    | exact Le.rf _
    | refine Le.grd ?_
    | refine Le.bind ?_ (fun _ => ?_)
    | refine Le.cond ?_ ?_
    | refine Le.map ?_
    | refine Le.elim (fun _ => ?_) (fun _ => ?_)
    | refine Le.loop (fun _ => ?_)
    | refine Le.loopF (fun _ => ?_)
theorem LE_vint_Put (p0 : ByteArray) (p1 : Int) : Le (X_vint_Put p0 p1) (F_vint_Put p0 p1) := by
  unfold X_vint_Put F_vint_Put
  repeat' with_reducible first
    | apply LE_vint_Size
    | apply LE_vint_Put_L1
    | exact Le.non _
    | exact Le.rf _
    | refine Le.grd ?_
    | refine Le.bind ?_ (fun _ => ?_)
    | refine Le.cond ?_ ?_
    | refine Le.map ?_
    | refine Le.elim (fun _ => ?_) (fun _ => ?_)
    | refine Le.loop (fun _ => ?_)
    | refine Le.loopF (fun _ => ?_)
theorem LE_vint_PutInt (p0 : ByteArray) (p1 : Int) : Le (X_vint_PutInt p0 p1) (F_vint_PutInt p0 p1) := by
  unfold X_vint_PutInt F_vint_PutInt
  repeat' with_reducible first
    | apply LE_vint_Zig
    | apply LE_vint_Put
    | exact Le.non _
    | exact Le.rf _
    | refine Le.grd ?_
    | refine Le.bind ?_ (fun _ => ?_)
    | refine Le.cond ?_ ?_
    | refine Le.map ?_
    | refine Le.elim (fun _ => ?_) (fun _ => ?_)
    | refine Le.loop (fun _ => ?_)
    | refine Le.loopF (fun _ => ?_)
theorem LE_wire_Writer_add (p1 : ByteArray) (o0 : T_wire_Writer) : Le (X_wire_Writer_add p1 o0) (F_wire_Writer_add p1 o0) := by
  unfold X_wire_Writer_add F_wire_Writer_add
  repeat' with_reducible first
    | exact Le.non _
    | exact Le.rf _
    | refine Le.grd ?_
    | refine Le.bind ?_ (fun _ => ?_)
    | refine Le.cond ?_ ?_
    | refine Le.map ?_
    | refine Le.elim (fun _ => ?_) (fun _ => ?_)
    | refine Le.loop (fun _ => ?_)
    | refine Le.loopF (fun _ => ?_)
theorem LE_wire_Writer_Int (p1 : Int) (o0 : T_wire_Writer) : Le (X_wire_Writer_Int p1 o0) (F_wire_Writer_Int p1 o0) := by
  unfold X_wire_Writer_Int F_wire_Writer_Int
  repeat' with_reducible first
    | apply LE_vint_PutInt
    | apply LE_wire_Writer_add
    | exact Le.non _
    | exact Le.rf _
    | refine Le.grd ?_
    | refine Le.bind ?_ (fun _ => ?_)
    | refine Le.cond ?_ ?_
    | refine Le.map ?_
    | refine Le.elim (fun _ => ?_) (fun _ => ?_)
    | refine Le.loop (fun _ => ?_)
    | refine Le.loopF (fun _ => ?_)
theorem LE_wire_Writer_Num (p1 : Int) (o0 : T_wire_Writer) : Le (X_wire_Writer_Num p1 o0) (F_wire_Writer_Num p1 o0) := by
  unfold X_wire_Writer_Num F_wire_Writer_Num
  repeat' with_reducible first
    | apply LE_vint_Put
    | apply LE_wire_Writer_add
    | exact Le.non _
    | exact Le.rf _
    | refine Le.grd ?_
    | refine Le.bind ?_ (fun _ => ?_)
    | refine Le.cond ?_ ?_
    | refine Le.map ?_
    | refine Le.elim (fun _ => ?_) (fun _ => ?_)
    | refine Le.loop (fun _ => ?_)
    | refine Le.loopF (fun _ => ?_)
theorem LE_wire_Writer_Text (p1 : ByteArray) (o0 : T_wire_Writer) : Le (X_wire_Writer_Text p1 o0) (F_wire_Writer_Text p1 o0) := by
  unfold X_wire_Writer_Text F_wire_Writer_Text
  repeat' with_reducible first
    | apply LE_wire_Writer_Num
    | apply LE_wire_Writer_add
    | exact Le.non _
    | exact Le.rf _
    | refine Le.grd ?_
    | refine Le.bind ?_ (fun _ => ?_)
    | refine Le.cond ?_ ?_
    | refine Le.map ?_
    | refine Le.elim (fun _ => ?_) (fun _ => ?_)
    | refine Le.loop (fun _ => ?_)
    | refine Le.loopF (fun _ => ?_)
theorem LE_wire_Writer_Bool (p1 : Bool) (o0 : T_wire_Writer) : Le (X_wire_Writer_Bool p1 o0) (F_wire_Writer_Bool p1 o0) := by
  unfold X_wire_Writer_Bool F_wire_Writer_Bool
  repeat' with_reducible first
    | apply LE_wire_Writer_add
    | exact Le.non _
    | exact Le.rf _
    | refine Le.grd ?_
    | refine Le.bind ?_ (fun _ => ?_)
    | refine Le.cond ?_ ?_
    | refine Le.map ?_
    | refine Le.elim (fun _ => ?_) (fun _ => ?_)
    | refine Le.loop (fun _ => ?_)
    | refine Le.loopF (fun _ => ?_)
theorem LE_wire_Writer_Bytes (o0 : T_wire_Writer) : Le (X_wire_Writer_Bytes o0) (F_wire_Writer_Bytes o0) := by
  unfold X_wire_Writer_Bytes F_wire_Writer_Bytes
  repeat' with_reducible first
    | exact Le.non _
    | exact Le.rf _
    | refine Le.grd ?_
    | refine Le.bind ?_ (fun _ => ?_)
    | refine Le.cond ?_ ?_
    | refine Le.map ?_
    | refine Le.elim (fun _ => ?_) (fun _ => ?_)
    | refine Le.loop (fun _ => ?_)
    | refine Le.loopF (fun _ => ?_)
theorem LE_wire_Open (p0 : ByteArray) : Le (X_wire_Open p0) (F_wire_Open p0) := by
  unfold X_wire_Open F_wire_Open
  repeat' with_reducible first
    | exact Le.non _
    | exact Le.rf _
    | refine Le.grd ?_
    | refine Le.bind ?_ (fun _ => ?_)
    | refine Le.cond ?_ ?_
    | refine Le.map ?_
    | refine Le.elim (fun _ => ?_) (fun _ => ?_)
    | refine Le.loop (fun _ => ?_)
    | refine Le.loopF (fun _ => ?_)
theorem LE_vint_Get_J2 (x90 : Int) : Le (X_vint_Get_J2 x90) (F_vint_Get_J2 x90) := by
  unfold X_vint_Get_J2 F_vint_Get_J2
  repeat' with_reducible first
    | exact Le.non _
    | exact Le.rf _
    | refine Le.grd ?_
    | refine Le.bind ?_ (fun _ => ?_)
    | refine Le.cond ?_ ?_
    | refine Le.map ?_
    | refine Le.elim (fun _ => ?_) (fun _ => ?_)
    | refine Le.loop (fun _ => ?_)
    | refine Le.loopF (fun _ => ?_)
theorem LE_vint_Get_J3 (p1 : Int) (x95 : Int) (x96 : Int) (y135 : Int) (x156 : Bool) : Le (X_vint_Get_J3 p1 x95 x96 y135 x156) (F_vint_Get_J3 p1 x95 x96 y135 x156) := by
  unfold X_vint_Get_J3 F_vint_Get_J3
  repeat' with_reducible first
    | apply LE_vint_Get_J2
    | exact Le.non _
    | exact Le.rf _
    | refine Le.grd ?_
    | refine Le.bind ?_ (fun _ => ?_)
    | refine Le.cond ?_ ?_
    | refine Le.map ?_
    | refine Le.elim (fun _ => ?_) (fun _ => ?_)
    | refine Le.loop (fun _ => ?_)
    | refine Le.loopF (fun _ => ?_)
theorem LE_vint_Get_J4 (p1 : Int) (x95 : Int) (x96 : Int) (y135 : Int) (x167 : Bool) : Le (X_vint_Get_J4 p1 x95 x96 y135 x167) (F_vint_Get_J4 p1 x95 x96 y135 x167) := by
  unfold X_vint_Get_J4 F_vint_Get_J4
  repeat' with_reducible first
    | apply LE_vint_Get_J3
    | exact Le.non _
    | exact Le.rf _
    | refine Le.grd ?_
    | refine Le.bind ?_ (fun _ => ?_)
    | refine Le.cond ?_ ?_
    | refine Le.map ?_
    | refine Le.elim (fun _ => ?_) (fun _ => ?_)
    | refine Le.loop (fun _ => ?_)
    | refine Le.loopF (fun _ => ?_)
theorem LE_vint_Get_L5 (p0 : ByteArray) (p1 : Int) (x95 : Int) (x96 : Int) : Le (X_vint_Get_L5 p0 p1 x95 x96) (F_vint_Get_L5 p0 p1 x95 x96) := by
  unfold X_vint_Get_L5 F_vint_Get_L5
  repeat' with_reducible first
    | apply LE_vint_Get_J4
    | apply LE_vint_Get_J2
    | exact Le.non _
    | exact Le.rf _
    | refine Le.grd ?_
    | refine Le.bind ?_ (fun _ => ?_)
    | refine Le.cond ?_ ?_
    | refine Le.map ?_
    | refine Le.elim (fun _ => ?_) (fun _ => ?_)
    | refine Le.loop (fun _ => ?_)
    | refine Le.loopF (fun _ => ?_)
theorem LE_vint_Get_J1 (p0 : ByteArray) (p1 : Int) (x6 : Bool) : Le (X_vint_Get_J1 p0 p1 x6) (F_vint_Get_J1 p0 p1 x6) := by
  unfold X_vint_Get_J1 F_vint_Get_J1
  repeat' with_reducible first
    | apply LE_vint_Get_L5
    | exact Le.non _
    | exact Le.rf _
    | refine Le.grd ?_
    | refine Le.bind ?_ (fun _ => ?_)
    | refine Le.cond ?_ ?_
    | refine Le.map ?_
    | refine Le.elim (fun _ => ?_) (fun _ => ?_)
    | refine Le.loop (fun _ => ?_)
    | refine Le.loopF (fun _ => ?_)
theorem LE_vint_Get (p0 : ByteArray) (p1 : Int) : Le (X_vint_Get p0 p1) (F_vint_Get p0 p1) := by
  unfold X_vint_Get F_vint_Get
  repeat' with_reducible first
    | apply LE_vint_Get_J1
    | exact Le.non _
    | exact Le.rf _
    | refine Le.grd ?_
    | refine Le.bind ?_ (fun _ => ?_)
    | refine Le.cond ?_ ?_
    | refine Le.map ?_
    | refine Le.elim (fun _ => ?_) (fun _ => ?_)
    | refine Le.loop (fun _ => ?_)
    | refine Le.loopF (fun _ => ?_)
theorem LE_vint_Zag (p0 : Int) : Le (X_vint_Zag p0) (F_vint_Zag p0) := by
  unfold X_vint_Zag F_vint_Zag
  repeat' with_reducible first
    | exact Le.non _
    | exact Le.rf _
    | refine Le.grd ?_
    | refine Le.bind ?_ (fun _ => ?_)
    | refine Le.cond ?_ ?_
    | refine Le.map ?_
    | refine Le.elim (fun _ => ?_) (fun _ => ?_)
    | refine Le.loop (fun _ => ?_)
    | refine Le.loopF (fun _ => ?_)
theorem LE_vint_GetInt (p0 : ByteArray) (p1 : Int) : Le (X_vint_GetInt p0 p1) (F_vint_GetInt p0 p1) := by
  unfold X_vint_GetInt F_vint_GetInt
  repeat' with_reducible first
    | apply LE_vint_Get
    | apply LE_vint_Zag
    | exact Le.non _
    | exact Le.rf _
    | refine Le.grd ?_
    | refine Le.bind ?_ (fun _ => ?_)
    | refine Le.cond ?_ ?_
    | refine Le.map ?_
    | refine Le.elim (fun _ => ?_) (fun _ => ?_)
    | refine Le.loop (fun _ => ?_)
    | refine Le.loopF (fun _ => ?_)
theorem LE_wire_Reader_Int_1 (p0 : ByteArray) (o0_0 : Int) : Le (X_wire_Reader_Int_1 p0 o0_0) (F_wire_Reader_Int_1 p0 o0_0) := by
  unfold X_wire_Reader_Int_1 F_wire_Reader_Int_1
  repeat' with_reducible first
    | apply LE_vint_GetInt
    | exact Le.non _
    | exact Le.rf _
    | refine Le.grd ?_
    | refine Le.bind ?_ (fun _ => ?_)
    | refine Le.cond ?_ ?_
    | refine Le.map ?_
    | refine Le.elim (fun _ => ?_) (fun _ => ?_)
    | refine Le.loop (fun _ => ?_)
    | refine Le.loopF (fun _ => ?_)
theorem LE_wire_Reader_step (o0 : T_wire_Reader) (o1_0 : Int) : Le (X_wire_Reader_step o0 o1_0) (F_wire_Reader_step o0 o1_0) := by
  unfold X_wire_Reader_step F_wire_Reader_step
  repeat' with_reducible first
    | apply LE_wire_Reader_Int_1
    | exact Le.non _
    | exact Le.rf _
    | refine Le.grd ?_
    | refine Le.bind ?_ (fun _ => ?_)
    | refine Le.cond ?_ ?_
    | refine Le.map ?_
    | refine Le.elim (fun _ => ?_) (fun _ => ?_)
    | refine Le.loop (fun _ => ?_)
    | refine Le.loopF (fun _ => ?_)
theorem LE_wire_Reader_Int (o0 : T_wire_Reader) : Le (X_wire_Reader_Int o0) (F_wire_Reader_Int o0) := by
  unfold X_wire_Reader_Int F_wire_Reader_Int
  repeat' with_reducible first
    | apply LE_wire_Reader_step
    | exact Le.non _
    | exact Le.rf _
    | refine Le.grd ?_
    | refine Le.bind ?_ (fun _ => ?_)
    | refine Le.cond ?_ ?_
    | refine Le.map ?_
    | refine Le.elim (fun _ => ?_) (fun _ => ?_)
    | refine Le.loop (fun _ => ?_)
    | refine Le.loopF (fun _ => ?_)
theorem LE_wire_Reader_Upto_1_J1 (y2 : Int × Int × Int) (x11 : Bool) : Le (X_wire_Reader_Upto_1_J1 y2 x11) (F_wire_Reader_Upto_1_J1 y2 x11) := by
  unfold X_wire_Reader_Upto_1_J1 F_wire_Reader_Upto_1_J1
  repeat' with_reducible first
    | exact Le.non _
    | exact Le.rf _
    | refine Le.grd ?_
    | refine Le.bind ?_ (fun _ => ?_)
    | refine Le.cond ?_ ?_
    | refine Le.map ?_
    | refine Le.elim (fun _ => ?_) (fun _ => ?_)
    | refine Le.loop (fun _ => ?_)
    | refine Le.loopF (fun _ => ?_)
theorem LE_wire_Reader_Upto_1 (p0 : ByteArray) (o0_0 : Int) (o1_0 : Int) : Le (X_wire_Reader_Upto_1 p0 o0_0 o1_0) (F_wire_Reader_Upto_1 p0 o0_0 o1_0) := by
  unfold X_wire_Reader_Upto_1 F_wire_Reader_Upto_1
  repeat' with_reducible first
    | apply LE_vint_Get
    | apply LE_wire_Reader_Upto_1_J1
    | exact Le.non _
    | exact Le.rf _
    | refine Le.grd ?_
    | refine Le.bind ?_ (fun _ => ?_)
    | refine Le.cond ?_ ?_
    | refine Le.map ?_
    | refine Le.elim (fun _ => ?_) (fun _ => ?_)
    | refine Le.loop (fun _ => ?_)
    | refine Le.loopF (fun _ => ?_)
theorem LE_wire_Reader_step_v2 (o0 : T_wire_Reader) (o1_0 : Int) (o2_0 : Int) : Le (X_wire_Reader_step_v2 o0 o1_0 o2_0) (F_wire_Reader_step_v2 o0 o1_0 o2_0) := by
  unfold X_wire_Reader_step_v2 F_wire_Reader_step_v2
  repeat' with_reducible first
    | apply LE_wire_Reader_Upto_1
    | exact Le.non _
    | exact Le.rf _
    | refine Le.grd ?_
    | refine Le.bind ?_ (fun _ => ?_)
    | refine Le.cond ?_ ?_
    | refine Le.map ?_
    | refine Le.elim (fun _ => ?_) (fun _ => ?_)
    | refine Le.loop (fun _ => ?_)
    | refine Le.loopF (fun _ => ?_)
theorem LE_wire_Reader_Upto (p1 : Int) (o0 : T_wire_Reader) : Le (X_wire_Reader_Upto p1 o0) (F_wire_Reader_Upto p1 o0) := by
  unfold X_wire_Reader_Upto F_wire_Reader_Upto
  repeat' with_reducible first
    | apply LE_wire_Reader_step_v2
    | exact Le.non _
    | exact Le.rf _
    | refine Le.grd ?_
    | refine Le.bind ?_ (fun _ => ?_)
    | refine Le.cond ?_ ?_
    | refine Le.map ?_
    | refine Le.elim (fun _ => ?_) (fun _ => ?_)
    | refine Le.loop (fun _ => ?_)
    | refine Le.loopF (fun _ => ?_)
theorem LE_wire_Reader_Raw_1 (p0 : ByteArray) (o0_0 : Int) (o1_0 : ByteArray) : Le (X_wire_Reader_Raw_1 p0 o0_0 o1_0) (F_wire_Reader_Raw_1 p0 o0_0 o1_0) := by
  unfold X_wire_Reader_Raw_1 F_wire_Reader_Raw_1
  repeat' with_reducible first
    | exact Le.non _
    | exact Le.rf _
    | refine Le.grd ?_
    | refine Le.bind ?_ (fun _ => ?_)
    | refine Le.cond ?_ ?_
    | refine Le.map ?_
    | refine Le.elim (fun _ => ?_) (fun _ => ?_)
    | refine Le.loop (fun _ => ?_)
    | refine Le.loopF (fun _ => ?_)
theorem LE_wire_Reader_step_v3 (o0 : T_wire_Reader) (o1_0 : Int) (o2_0 : ByteArray) : Le (X_wire_Reader_step_v3 o0 o1_0 o2_0) (F_wire_Reader_step_v3 o0 o1_0 o2_0) := by
  unfold X_wire_Reader_step_v3 F_wire_Reader_step_v3
  repeat' with_reducible first
    | apply LE_wire_Reader_Raw_1
    | exact Le.non _
    | exact Le.rf _
    | refine Le.grd ?_
    | refine Le.bind ?_ (fun _ => ?_)
    | refine Le.cond ?_ ?_
    | refine Le.map ?_
    | refine Le.elim (fun _ => ?_) (fun _ => ?_)
    | refine Le.loop (fun _ => ?_)
    | refine Le.loopF (fun _ => ?_)
theorem LE_wire_Reader_Raw (p1 : Int) (o0 : T_wire_Reader) : Le (X_wire_Reader_Raw p1 o0) (F_wire_Reader_Raw p1 o0) := by
  unfold X_wire_Reader_Raw F_wire_Reader_Raw
  repeat' with_reducible first
    | apply LE_wire_Reader_step_v3
    | exact Le.non _
    | exact Le.rf _
    | refine Le.grd ?_
    | refine Le.bind ?_ (fun _ => ?_)
    | refine Le.cond ?_ ?_
    | refine Le.map ?_
    | refine Le.elim (fun _ => ?_) (fun _ => ?_)
    | refine Le.loop (fun _ => ?_)
    | refine Le.loopF (fun _ => ?_)
theorem LE_wire_Reader_Text (p1 : Int) (o0 : T_wire_Reader) : Le (X_wire_Reader_Text p1 o0) (F_wire_Reader_Text p1 o0) := by
  unfold X_wire_Reader_Text F_wire_Reader_Text
  repeat' with_reducible first
    | apply LE_wire_Reader_Upto
    | apply LE_wire_Reader_Raw
    | exact Le.non _
    | exact Le.rf _
    | refine Le.grd ?_
    | refine Le.bind ?_ (fun _ => ?_)
    | refine Le.cond ?_ ?_
    | refine Le.map ?_
    | refine Le.elim (fun _ => ?_) (fun _ => ?_)
    | refine Le.loop (fun _ => ?_)
    | refine Le.loopF (fun _ => ?_)
theorem LE_wire_Reader_Bool_1 (p0 : ByteArray) (o0_0 : Int) : Le (X_wire_Reader_Bool_1 p0 o0_0) (F_wire_Reader_Bool_1 p0 o0_0) := by
  unfold X_wire_Reader_Bool_1 F_wire_Reader_Bool_1
  repeat' with_reducible first
    | exact Le.non _
    | exact Le.rf _
    | refine Le.grd ?_
    | refine Le.bind ?_ (fun _ => ?_)
    | refine Le.cond ?_ ?_
    | refine Le.map ?_
    | refine Le.elim (fun _ => ?_) (fun _ => ?_)
    | refine Le.loop (fun _ => ?_)
    | refine Le.loopF (fun _ => ?_)
theorem LE_wire_Reader_step_v4 (o0 : T_wire_Reader) (o1_0 : Int) : Le (X_wire_Reader_step_v4 o0 o1_0) (F_wire_Reader_step_v4 o0 o1_0) := by
  unfold X_wire_Reader_step_v4 F_wire_Reader_step_v4
  repeat' with_reducible first
    | apply LE_wire_Reader_Bool_1
    | exact Le.non _
    | exact Le.rf _
    | refine Le.grd ?_
    | refine Le.bind ?_ (fun _ => ?_)
    | refine Le.cond ?_ ?_
    | refine Le.map ?_
    | refine Le.elim (fun _ => ?_) (fun _ => ?_)
    | refine Le.loop (fun _ => ?_)
    | refine Le.loopF (fun _ => ?_)
theorem LE_wire_Reader_Bool_J1 (y2 : Bool × T_wire_Reader × Int) (x4 : Bool) : Le (X_wire_Reader_Bool_J1 y2 x4) (F_wire_Reader_Bool_J1 y2 x4) := by
  unfold X_wire_Reader_Bool_J1 F_wire_Reader_Bool_J1
  repeat' with_reducible first
    | exact Le.non _
    | exact Le.rf _
    | refine Le.grd ?_
    | refine Le.bind ?_ (fun _ => ?_)
    | refine Le.cond ?_ ?_
    | refine Le.map ?_
    | refine Le.elim (fun _ => ?_) (fun _ => ?_)
    | refine Le.loop (fun _ => ?_)
    | refine Le.loopF (fun _ => ?_)
theorem LE_wire_Reader_Bool (o0 : T_wire_Reader) : Le (X_wire_Reader_Bool o0) (F_wire_Reader_Bool o0) := by
  unfold X_wire_Reader_Bool F_wire_Reader_Bool
  repeat' with_reducible first
    | apply LE_wire_Reader_step_v4
    | apply LE_wire_Reader_Bool_J1
    | exact Le.non _
    | exact Le.rf _
    | refine Le.grd ?_
    | refine Le.bind ?_ (fun _ => ?_)
    | refine Le.cond ?_ ?_
    | refine Le.map ?_
    | refine Le.elim (fun _ => ?_) (fun _ => ?_)
    | refine Le.loop (fun _ => ?_)
    | refine Le.loopF (fun _ => ?_)
theorem LE_wire_Reader_Err (o0 : T_wire_Reader) : Le (X_wire_Reader_Err o0) (F_wire_Reader_Err o0) := by
  unfold X_wire_Reader_Err F_wire_Reader_Err
  repeat' with_reducible first
    | exact Le.non _
    | exact Le.rf _
    | refine Le.grd ?_
    | refine Le.bind ?_ (fun _ => ?_)
    | refine Le.cond ?_ ?_
    | refine Le.map ?_
    | refine Le.elim (fun _ => ?_) (fun _ => ?_)
    | refine Le.loop (fun _ => ?_)
    | refine Le.loopF (fun _ => ?_)
theorem LE_wire_Reader_Left (o0 : T_wire_Reader) : Le (X_wire_Reader_Left o0) (F_wire_Reader_Left o0) := by
  unfold X_wire_Reader_Left F_wire_Reader_Left
  repeat' with_reducible first
    | exact Le.non _
    | exact Le.rf _
    | refine Le.grd ?_
    | refine Le.bind ?_ (fun _ => ?_)
    | refine Le.cond ?_ ?_
    | refine Le.map ?_
    | refine Le.elim (fun _ => ?_) (fun _ => ?_)
    | refine Le.loop (fun _ => ?_)
    | refine Le.loopF (fun _ => ?_)
theorem LE_wire_Reader_End_J1 (y10 : Int) (x13 : Bool) : Le (X_wire_Reader_End_J1 y10 x13) (F_wire_Reader_End_J1 y10 x13) := by
  unfold X_wire_Reader_End_J1 F_wire_Reader_End_J1
  repeat' with_reducible first
    | exact Le.non _
    | exact Le.rf _
    | refine Le.grd ?_
    | refine Le.bind ?_ (fun _ => ?_)
    | refine Le.cond ?_ ?_
    | refine Le.map ?_
    | refine Le.elim (fun _ => ?_) (fun _ => ?_)
    | refine Le.loop (fun _ => ?_)
    | refine Le.loopF (fun _ => ?_)
theorem LE_wire_Reader_End (o0 : T_wire_Reader) : Le (X_wire_Reader_End o0) (F_wire_Reader_End o0) := by
  unfold X_wire_Reader_End F_wire_Reader_End
  repeat' with_reducible first
    | apply LE_wire_Reader_Err
    | apply LE_wire_Reader_End_J1
    | apply LE_wire_Reader_Left
    | exact Le.non _
    | exact Le.rf _
    | refine Le.grd ?_
    | refine Le.bind ?_ (fun _ => ?_)
    | refine Le.cond ?_ ?_
    | refine Le.map ?_
    | refine Le.elim (fun _ => ?_) (fun _ => ?_)
    | refine Le.loop (fun _ => ?_)
    | refine Le.loopF (fun _ => ?_)
theorem LE_retracelaw03_live_J1 (x20 : Bool) : Le (X_retracelaw03_live_J1 x20) (F_retracelaw03_live_J1 x20) := by
  unfold X_retracelaw03_live_J1 F_retracelaw03_live_J1
  repeat' with_reducible first
    | exact Le.non _
    | exact Le.rf _
    | refine Le.grd ?_
    | refine Le.bind ?_ (fun _ => ?_)
    | refine Le.cond ?_ ?_
    | refine Le.map ?_
    | refine Le.elim (fun _ => ?_) (fun _ => ?_)
    | refine Le.loop (fun _ => ?_)
    | refine Le.loopF (fun _ => ?_)
theorem LE_retracelaw03_live  : Le (X_retracelaw03_live ) (F_retracelaw03_live ) := by
  unfold X_retracelaw03_live F_retracelaw03_live
  repeat' with_reducible first
    | apply LE_wire_Writer_Int
    | apply LE_wire_Writer_Text
    | apply LE_wire_Writer_Bool
    | apply LE_wire_Writer_Bytes
    | apply LE_wire_Open
    | apply LE_wire_Reader_Int
    | apply LE_wire_Reader_Text
    | apply LE_wire_Reader_Bool
    | apply LE_wire_Reader_End
    | apply LE_retracelaw03_live_J1
    | exact Le.non _
    | exact Le.rf _
    | refine Le.grd ?_
    | refine Le.bind ?_ (fun _ => ?_)
    | refine Le.cond ?_ ?_
    | refine Le.map ?_
    | refine Le.elim (fun _ => ?_) (fun _ => ?_)
    | refine Le.loop (fun _ => ?_)
    | refine Le.loopF (fun _ => ?_)
theorem ev_retracelaw03_live : F_retracelaw03_live = some true := LE_retracelaw03_live _ (by kernel_rfl)
end Go.Ab
