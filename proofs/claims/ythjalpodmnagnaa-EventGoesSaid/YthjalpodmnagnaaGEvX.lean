import Derived.Test.YthjalpodmnagnaaGEv
import Derived.Test.YthjalpodmnagnaaAbEval
namespace Go.Ab
open Go.Proofs
set_option linter.unusedVariables false
noncomputable def X_vint_Size_L1 (x9 : Int) (x10 : Int) : Option ((Int × Int) ⊕ (Int)) :=
  cond (decide (128 ≤ x9)) (some (.inl ((Int.fdiv x9 128), (w64 (x10 + 1))))) ((some x10).map Sum.inr)
noncomputable def X_vint_Size (p0 : Int) : Option (Int) :=
  Loopx (fun s : (Int × Int) => X_vint_Size_L1 s.1 s.2) (p0, 1)
noncomputable def X_vint_Put_L1 (x17 : Int) (x18 : (List Int)) : Option ((Int × (List Int)) ⊕ (ByteArray)) :=
  cond (decide (128 ≤ x17)) (grd (((x18).length + ([(bits .or .u8 (wu8 x17) 128)]).length) * 1 ≤ 140737488355328) <| some (.inl ((Int.fdiv x17 128), (x18 ++ [(bits .or .u8 (wu8 x17) 128)])))) ((grd (((x18).length + ([(wu8 x17)]).length) * 1 ≤ 140737488355328) <| some (strOfNums (x18 ++ [(wu8 x17)]))).map Sum.inr)
noncomputable def X_vint_Put (p0 : ByteArray) (p1 : Int) : Option (ByteArray) :=
  (X_vint_Size p1).bind fun y3 => grd ((0 : Int) ≤ 0 ∧ 0 ≤ (w64 ((p0.size : Int) + y3)) ∧ (w64 ((p0.size : Int) + y3)) ≤ 281474976710656 ∧ (1 : Int) * (w64 ((p0.size : Int) + y3)) ≤ 281474976710656) <| grd (((([] : List Int)).length + p0.size) * 1 ≤ 140737488355328) <| Loopx (fun s : (Int × (List Int)) => X_vint_Put_L1 s.1 s.2) (p1, (([] : List Int) ++ (sB p0)))
noncomputable def X_wire_Writer_add (p1 : ByteArray) (o0 : T_wire_Writer) : Option (T_wire_Writer) :=
  grd (((o0.s).length + p1.size) * 1 ≤ 140737488355328) <| some (⟨(o0.s ++ (sB p1))⟩ : T_wire_Writer)
noncomputable def X_wire_Writer_Num (p1 : Int) (o0 : T_wire_Writer) : Option (T_wire_Writer) :=
  (X_vint_Put (⟨#[]⟩ : ByteArray) p1).bind fun y1 => (X_wire_Writer_add y1 o0).bind fun y2 => some y2
noncomputable def X_vint_Zig (p0 : Int) : Option (Int) :=
  some (bits .xor .u64 (wu64 ((wu64 p0) * 2)) (wu64 (Int.fdiv p0 9223372036854775808)))
noncomputable def X_vint_PutInt (p0 : ByteArray) (p1 : Int) : Option (ByteArray) :=
  (X_vint_Zig p1).bind fun y3 => (X_vint_Put p0 y3).bind fun y4 => some y4
noncomputable def X_wire_Writer_Int (p1 : Int) (o0 : T_wire_Writer) : Option (T_wire_Writer) :=
  (X_vint_PutInt (⟨#[]⟩ : ByteArray) p1).bind fun y1 => (X_wire_Writer_add y1 o0).bind fun y2 => some y2
noncomputable def X_wire_Writer_Bytes (o0 : T_wire_Writer) : Option (ByteArray) :=
  some (strOfNums o0.s)
noncomputable def X_event_Put_L1 (p0 : (List T_api_Event)) (x21 : Int) (x22 : (List Int)) : Option ((Int × (List Int)) ⊕ (ByteArray)) :=
  cond (decide (x21 < ((p0).length : Int))) ((lAt p0 x21).bind fun y33 => (X_wire_Writer_Int y33.Kind (⟨x22⟩ : T_wire_Writer)).bind fun y35 => (X_wire_Writer_Int y33.N y35).bind fun y36 => some (.inl ((w64 (x21 + 1)), y36.s))) (((X_wire_Writer_Bytes (⟨x22⟩ : T_wire_Writer)).bind fun y40 => some y40).map Sum.inr)
noncomputable def X_event_Put (p0 : (List T_api_Event)) : Option (ByteArray) :=
  (X_wire_Writer_Num (wu64 ((p0).length : Int)) (⟨([] : List Int)⟩ : T_wire_Writer)).bind fun y2 => Loopx (fun s : (Int × (List Int)) => X_event_Put_L1 p0 s.1 s.2) (0, y2.s)
noncomputable def X_wire_Open (p0 : ByteArray) : Option (T_wire_Reader) :=
  some (⟨p0, 0⟩ : T_wire_Reader)
noncomputable def X_vint_Get_J2 (x90 : Int) : Option (Int × Int × Int) :=
  some (0, 0, x90)
noncomputable def X_vint_Get_J3 (p1 : Int) (x95 : Int) (x96 : Int) (y135 : Int) (x156 : Bool) : Option ((Int × Int) ⊕ (Int × Int × Int)) :=
  cond x156 ((X_vint_Get_J2 3).map Sum.inr) (cond (decide (y135 < 128)) (grd ((0 : Int) ≤ (w64 (7 * x96))) <| (some ((bits .or .u64 x95 (wu64 ((wu64 y135) * 2 ^ (min (Int.toNat (w64 (7 * x96))) 64)))), (w64 ((w64 (p1 + x96)) + 1)), 0)).map Sum.inr) (grd ((0 : Int) ≤ (w64 (7 * x96))) <| some (.inl ((bits .or .u64 x95 (wu64 ((wu64 (bits .and .u8 y135 127)) * 2 ^ (min (Int.toNat (w64 (7 * x96))) 64)))), (w64 (x96 + 1))))))
noncomputable def X_vint_Get_J4 (p1 : Int) (x95 : Int) (x96 : Int) (y135 : Int) (x167 : Bool) : Option ((Int × Int) ⊕ (Int × Int × Int)) :=
  cond x167 (X_vint_Get_J3 p1 x95 x96 y135 x167) (cond (decide (0 < x96)) (X_vint_Get_J3 p1 x95 x96 y135 (y135 == 0)) (X_vint_Get_J3 p1 x95 x96 y135 false))
noncomputable def X_vint_Get_L5 (p0 : ByteArray) (p1 : Int) (x95 : Int) (x96 : Int) : Option ((Int × Int) ⊕ (Int × Int × Int)) :=
  cond (decide (x96 < (((sB (p0.extract (Int.toNat p1) (Int.toNat (p0.size : Int))))).length : Int))) ((lAt (sB (p0.extract (Int.toNat p1) (Int.toNat (p0.size : Int)))) x96).bind fun y135 => cond (x96 == 9) (X_vint_Get_J4 p1 x95 x96 y135 (decide (1 < y135))) (X_vint_Get_J4 p1 x95 x96 y135 false)) ((X_vint_Get_J2 2).map Sum.inr)
noncomputable def X_vint_Get_J1 (p0 : ByteArray) (p1 : Int) (x6 : Bool) : Option (Int × Int × Int) :=
  cond x6 (some (0, 0, 1)) (grd ((0 : Int) ≤ p1 ∧ p1 ≤ (p0.size : Int) ∧ (p0.size : Int) ≤ (p0.size : Int)) <| grd ((p0.extract (Int.toNat p1) (Int.toNat (p0.size : Int))).size ≤ 281474976710656) <| Loopx (fun s : (Int × Int) => X_vint_Get_L5 p0 p1 s.1 s.2) (0, 0))
noncomputable def X_vint_Get (p0 : ByteArray) (p1 : Int) : Option (Int × Int × Int) :=
  cond (decide (p1 < 0)) (X_vint_Get_J1 p0 p1 true) (X_vint_Get_J1 p0 p1 (decide ((p0.size : Int) < p1)))
noncomputable def X_wire_Reader_Upto_1_J1 (y2 : Int × Int × Int) (x11 : Bool) : Option (Int × Int × Int) :=
  cond x11 (some (0, 6, y2.1)) (some (y2.2.1, y2.2.2, y2.1))
noncomputable def X_wire_Reader_Upto_1 (p0 : ByteArray) (o0_0 : Int) (o1_0 : Int) : Option (Int × Int × Int) :=
  (X_vint_Get p0 0).bind fun y2 => cond (y2.2.2 == 0) (cond (decide (o1_0 < 0)) (X_wire_Reader_Upto_1_J1 y2 true) (X_wire_Reader_Upto_1_J1 y2 (decide ((wu64 o1_0) < y2.1)))) (X_wire_Reader_Upto_1_J1 y2 false)
noncomputable def X_wire_Reader_step (o0 : T_wire_Reader) (o1_0 : Int) (o2_0 : Int) : Option (Bool × T_wire_Reader × Int) :=
  cond (o0.e != 0) (some (false, o0, o1_0)) ((X_wire_Reader_Upto_1 o0.s o1_0 o2_0).bind fun y4 => cond (y4.2.1 != 0) (some (false, (⟨o0.s, y4.2.1⟩ : T_wire_Reader), y4.2.2)) (grd ((0 : Int) ≤ y4.1 ∧ y4.1 ≤ (o0.s.size : Int) ∧ (o0.s.size : Int) ≤ (o0.s.size : Int)) <| some (true, (⟨(o0.s.extract (Int.toNat y4.1) (Int.toNat (o0.s.size : Int))), o0.e⟩ : T_wire_Reader), y4.2.2)))
noncomputable def X_wire_Reader_Upto (p1 : Int) (o0 : T_wire_Reader) : Option (Int × T_wire_Reader) :=
  (X_wire_Reader_step o0 0 p1).bind fun y2 => cond (!y2.1) (some (0, y2.2.1)) (some ((w64 y2.2.2), y2.2.1))
noncomputable def X_wire_Reader_Err (o0 : T_wire_Reader) : Option (Int) :=
  some o0.e
noncomputable def X_vint_Zag (p0 : Int) : Option (Int) :=
  some (bits .xor .i64 (w64 (Int.fdiv p0 2)) (w64 (0 - (w64 (bits .and .u64 p0 1)))))
noncomputable def X_vint_GetInt (p0 : ByteArray) (p1 : Int) : Option (Int × Int × Int) :=
  (X_vint_Get p0 p1).bind fun y2 => (X_vint_Zag y2.1).bind fun y4 => some (y4, y2.2.1, y2.2.2)
noncomputable def X_wire_Reader_Int_1 (p0 : ByteArray) (o0_0 : Int) : Option (Int × Int × Int) :=
  (X_vint_GetInt p0 0).bind fun y2 => some (y2.2.1, y2.2.2, y2.1)
noncomputable def X_wire_Reader_step_v2 (o0 : T_wire_Reader) (o1_0 : Int) : Option (Bool × T_wire_Reader × Int) :=
  cond (o0.e != 0) (some (false, o0, o1_0)) ((X_wire_Reader_Int_1 o0.s o1_0).bind fun y4 => cond (y4.2.1 != 0) (some (false, (⟨o0.s, y4.2.1⟩ : T_wire_Reader), y4.2.2)) (grd ((0 : Int) ≤ y4.1 ∧ y4.1 ≤ (o0.s.size : Int) ∧ (o0.s.size : Int) ≤ (o0.s.size : Int)) <| some (true, (⟨(o0.s.extract (Int.toNat y4.1) (Int.toNat (o0.s.size : Int))), o0.e⟩ : T_wire_Reader), y4.2.2)))
noncomputable def X_wire_Reader_Int (o0 : T_wire_Reader) : Option (Int × T_wire_Reader) :=
  (X_wire_Reader_step_v2 o0 0).bind fun y2 => some (y2.2.2, y2.2.1)
noncomputable def X_wire_Reader_Left (o0 : T_wire_Reader) : Option (Int) :=
  some (o0.s.size : Int)
noncomputable def X_wire_Reader_End_J1 (y10 : Int) (x13 : Bool) : Option (Int) :=
  cond x13 (some y10) (some 3)
noncomputable def X_wire_Reader_End (o0 : T_wire_Reader) : Option (Int) :=
  (X_wire_Reader_Err o0).bind fun y10 => cond (y10 != 0) (X_wire_Reader_End_J1 y10 true) ((X_wire_Reader_Left o0).bind fun y16 => X_wire_Reader_End_J1 y10 (y16 == 0))
noncomputable def X_event_Check_J1 (x36 : Int) (x59 : Bool) : Option ((Int) ⊕ (Int × Int)) :=
  cond x59 ((some (x36, 3)).map Sum.inr) (some (.inl (w64 (x36 + 1))))
noncomputable def X_event_Check_L2 (p0 : (List T_api_Event)) (x36 : Int) : Option ((Int) ⊕ (Int × Int)) :=
  cond (decide (x36 < ((p0).length : Int))) ((lAt p0 x36).bind fun y54 => cond (decide (y54.Kind < 1)) (X_event_Check_J1 x36 true) (cond (decide (3 < y54.Kind)) (X_event_Check_J1 x36 true) (cond (decide (y54.N < 0)) (X_event_Check_J1 x36 true) (cond (x36 == 0) (X_event_Check_J1 x36 (y54.Kind != 1)) (X_event_Check_J1 x36 false))))) ((some (0, 0)).map Sum.inr)
noncomputable def X_event_Check (p0 : (List T_api_Event)) : Option (Int × Int) :=
  cond (decide (65536 < ((p0).length : Int))) (some (65536, 13)) (Loopx (fun s : (Int) => X_event_Check_L2 p0 s) 0)
noncomputable def X_event_Get_J1 (x29 : ByteArray) (x30 : Int) (x31 : (List T_api_Event)) (x42 : Bool) : Option ((ByteArray × Int × (List T_api_Event)) ⊕ ((List T_api_Event) × Int)) :=
  cond x42 ((X_wire_Reader_Int (⟨x29, x30⟩ : T_wire_Reader)).bind fun y45 => (X_wire_Reader_Int y45.2).bind fun y47 => grd (((x31).length + ([(⟨y45.1, y47.1⟩ : T_api_Event)]).length) * 16 ≤ 140737488355328) <| some (.inl (y47.2.s, y47.2.e, (x31 ++ [(⟨y45.1, y47.1⟩ : T_api_Event)])))) (((X_wire_Reader_End (⟨x29, x30⟩ : T_wire_Reader)).bind fun y55 => cond (y55 != 0) (some (([] : List T_api_Event), y55)) ((X_event_Check x31).bind fun y61 => cond (y61.2 != 0) (some (([] : List T_api_Event), y61.2)) (some (x31, 0)))).map Sum.inr)
noncomputable def X_event_Get_L2 (y4 : Int × T_wire_Reader) (x29 : ByteArray) (x30 : Int) (x31 : (List T_api_Event)) : Option ((ByteArray × Int × (List T_api_Event)) ⊕ ((List T_api_Event) × Int)) :=
  cond (decide (((x31).length : Int) < y4.1)) ((X_wire_Reader_Err (⟨x29, x30⟩ : T_wire_Reader)).bind fun y64 => X_event_Get_J1 x29 x30 x31 (y64 == 0)) (X_event_Get_J1 x29 x30 x31 false)
noncomputable def X_event_Get (p0 : ByteArray) : Option ((List T_api_Event) × Int) :=
  (X_wire_Open p0).bind fun y2 => (X_wire_Reader_Upto 65536 y2).bind fun y4 => Loopx (fun s : (ByteArray × Int × (List T_api_Event)) => X_event_Get_L2 y4 s.1 s.2.1 s.2.2) (y4.2.s, y4.2.e, ([] : (List T_api_Event)))
noncomputable def X_event_begins (p0 : (List T_api_Event)) : Option ((List T_api_Event)) :=
  some p0
noncomputable def X_R_event_Begin_0 (p0 : Int) (o1_0 : Int) (o2_0 : Int) : Option ((Int) ⊕ (Int)) :=
  cond (o1_0 == 0) (some (.inl p0)) (some (.inr (w64 (o1_0 - 1))))
noncomputable def X_event_begins_1_J1 (x2 : Int) (x25 : Int) : Option ((Int × Int) ⊕ ((Int × Int) ⊕ (Int))) :=
  (some (.inl (x2, x25))).map Sum.inr
noncomputable def X_event_begins_1_J2 (x1 : Int) (x28 : Int) : Option ((Int × Int) ⊕ ((Int × Int) ⊕ (Int))) :=
  some (.inl ((w64 (x1 + 1)), x28))
noncomputable def X_event_begins_1_L3 (o2_0 : Int) (o3_0 : (List T_api_Event)) (x1 : Int) (x2 : Int) : Option ((Int × Int) ⊕ ((Int × Int) ⊕ (Int))) :=
  cond (decide (x1 < ((o3_0).length : Int))) ((lAt o3_0 x1).bind fun y20 => cond (y20.Kind == 1) ((X_R_event_Begin_0 x1 x2 o2_0).bind fun y30 => (Sum.elim (fun y31 => X_event_begins_1_J1 x2 y31) (fun y32 => X_event_begins_1_J2 x1 y32)) y30) (X_event_begins_1_J2 x1 x2)) ((some (.inr x2)).map Sum.inr)
noncomputable def X_event_begins_1 (o1_0 : Int) (o2_0 : Int) (o3_0 : (List T_api_Event)) : Option ((Int × Int) ⊕ (Int)) :=
  Loopx (fun s : (Int × Int) => X_event_begins_1_L3 o2_0 o3_0 s.1 s.2) (0, o1_0)
noncomputable def X_event_Begin (p0 : (List T_api_Event)) (p1 : Int) : Option (Int) :=
  cond (decide (p1 < 0)) (some (-1)) ((X_event_begins p0).bind fun y9 => (X_event_begins_1 p1 0 y9).bind fun y10 => (Sum.elim (fun y11 => some y11.2) (fun y12 => cond (y12 == 0) (some ((p0).length : Int)) (some (-1)))) y10)
noncomputable def X_R_event_Steps_0 (p0 : Int) (o1_0 : Int) : Option (Int) :=
  some (w64 (o1_0 + 1))
noncomputable def X_event_begins_1_v2_J1 (x1 : Int) (x18 : Int) : Option ((Int × Int) ⊕ (Int)) :=
  some (.inl ((w64 (x1 + 1)), x18))
noncomputable def X_event_begins_1_v2_L2 (o2_0 : (List T_api_Event)) (x1 : Int) (x2 : Int) : Option ((Int × Int) ⊕ (Int)) :=
  cond (decide (x1 < ((o2_0).length : Int))) ((lAt o2_0 x1).bind fun y15 => cond (y15.Kind == 1) ((X_R_event_Steps_0 x1 x2).bind fun y20 => X_event_begins_1_v2_J1 x1 y20) (X_event_begins_1_v2_J1 x1 x2)) ((some x2).map Sum.inr)
noncomputable def X_event_begins_1_v2 (o1_0 : Int) (o2_0 : (List T_api_Event)) : Option (Int) :=
  Loopx (fun s : (Int × Int) => X_event_begins_1_v2_L2 o2_0 s.1 s.2) (0, o1_0)
noncomputable def X_event_Steps (p0 : (List T_api_Event)) : Option (Int) :=
  (X_event_begins p0).bind fun y5 => (X_event_begins_1_v2 0 y5).bind fun y6 => some y6
noncomputable def X_retraceref27_Same_L1 (p0 : (List T_api_Event)) (p1 : (List T_api_Event)) (x22 : Int) : Option ((Int) ⊕ (Bool)) :=
  cond (decide (x22 < ((p0).length : Int))) ((lAt p0 x22).bind fun y34 => (lAt p1 x22).bind fun y35 => cond (!((y34.Kind == y35.Kind) && ((y34.N == y35.N) && true))) ((some false).map Sum.inr) (some (.inl (w64 (x22 + 1))))) ((some true).map Sum.inr)
noncomputable def X_retraceref27_Same (p0 : (List T_api_Event)) (p1 : (List T_api_Event)) : Option (Bool) :=
  cond (((p0).length : Int) != ((p1).length : Int)) (some false) (Loopx (fun s : (Int) => X_retraceref27_Same_L1 p0 p1 s) 0)
noncomputable def X_retracelaw31_live_J1 (x14 : Bool) : Option (Bool) :=
  some x14
noncomputable def X_retracelaw31_live  : Option (Bool) :=
  (X_event_Put ([(⟨1, 0⟩ : T_api_Event), (⟨3, 2⟩ : T_api_Event), (⟨1, 1⟩ : T_api_Event)])).bind fun y3 => (X_event_Get y3).bind fun y4 => (X_event_Check ([(⟨1, 0⟩ : T_api_Event), (⟨3, 2⟩ : T_api_Event), (⟨1, 1⟩ : T_api_Event)])).bind fun y6 => (X_event_Begin ([(⟨1, 0⟩ : T_api_Event), (⟨3, 2⟩ : T_api_Event), (⟨1, 1⟩ : T_api_Event)]) 1).bind fun y15 => cond (y15 == 2) ((X_event_Steps ([(⟨1, 0⟩ : T_api_Event), (⟨3, 2⟩ : T_api_Event), (⟨1, 1⟩ : T_api_Event)])).bind fun y17 => cond (y17 == 2) ((X_retraceref27_Same y4.1 ([(⟨1, 0⟩ : T_api_Event), (⟨3, 2⟩ : T_api_Event), (⟨1, 1⟩ : T_api_Event)])).bind fun y19 => cond y19 (cond (y4.2 == 0) (X_retracelaw31_live_J1 (y6.2 == 0)) (X_retracelaw31_live_J1 false)) (X_retracelaw31_live_J1 false)) (X_retracelaw31_live_J1 false)) (X_retracelaw31_live_J1 false)
theorem LE_vint_Size_L1 (x9 : Int) (x10 : Int) : Le (X_vint_Size_L1 x9 x10) (F_vint_Size_L1 x9 x10) := by
  unfold X_vint_Size_L1 F_vint_Size_L1
  repeat' with_reducible first
    | exact Le.non _
    | exact Le.rf _
    | refine Le.grd ?_
    | refine Le.bind ?_ (fun _ => ?_)
    | refine Le.cond ?_ ?_
    | refine Le.map ?_
    | refine Le.elim (fun _ => ?_) (fun _ => ?_)
    | refine Le.loop (fun _ => ?_)
    | refine Le.loopF (fun _ => ?_)
theorem LE_vint_Size (p0 : Int) : Le (X_vint_Size p0) (F_vint_Size p0) := by
  unfold X_vint_Size F_vint_Size
  repeat' with_reducible first
    | apply LE_vint_Size_L1
    | exact Le.non _
    | exact Le.rf _
    | refine Le.grd ?_
    | refine Le.bind ?_ (fun _ => ?_)
    | refine Le.cond ?_ ?_
    | refine Le.map ?_
    | refine Le.elim (fun _ => ?_) (fun _ => ?_)
    | refine Le.loop (fun _ => ?_)
    | refine Le.loopF (fun _ => ?_)
theorem LE_vint_Put_L1 (x17 : Int) (x18 : (List Int)) : Le (X_vint_Put_L1 x17 x18) (F_vint_Put_L1 x17 x18) := by
  unfold X_vint_Put_L1 F_vint_Put_L1
  repeat' with_reducible first
    | exact Le.non _
    | exact Le.rf _
    | refine Le.grd ?_
    | refine Le.bind ?_ (fun _ => ?_)
    | refine Le.cond ?_ ?_
    | refine Le.map ?_
    | refine Le.elim (fun _ => ?_) (fun _ => ?_)
    | refine Le.loop (fun _ => ?_)
    | refine Le.loopF (fun _ => ?_)
theorem LE_vint_Put (p0 : ByteArray) (p1 : Int) : Le (X_vint_Put p0 p1) (F_vint_Put p0 p1) := by
  unfold X_vint_Put F_vint_Put
  repeat' with_reducible first
    | apply LE_vint_Size
    | apply LE_vint_Put_L1
    | exact Le.non _
    | exact Le.rf _
    | refine Le.grd ?_
    | refine Le.bind ?_ (fun _ => ?_)
    | refine Le.cond ?_ ?_
    | refine Le.map ?_
    | refine Le.elim (fun _ => ?_) (fun _ => ?_)
    | refine Le.loop (fun _ => ?_)
    | refine Le.loopF (fun _ => ?_)
theorem LE_wire_Writer_add (p1 : ByteArray) (o0 : T_wire_Writer) : Le (X_wire_Writer_add p1 o0) (F_wire_Writer_add p1 o0) := by
  unfold X_wire_Writer_add F_wire_Writer_add
  repeat' with_reducible first
    | exact Le.non _
    | exact Le.rf _
    | refine Le.grd ?_
    | refine Le.bind ?_ (fun _ => ?_)
    | refine Le.cond ?_ ?_
    | refine Le.map ?_
    | refine Le.elim (fun _ => ?_) (fun _ => ?_)
    | refine Le.loop (fun _ => ?_)
    | refine Le.loopF (fun _ => ?_)
theorem LE_wire_Writer_Num (p1 : Int) (o0 : T_wire_Writer) : Le (X_wire_Writer_Num p1 o0) (F_wire_Writer_Num p1 o0) := by
  unfold X_wire_Writer_Num F_wire_Writer_Num
  repeat' with_reducible first
    | apply LE_vint_Put
    | apply LE_wire_Writer_add
    | exact Le.non _
    | exact Le.rf _
    | refine Le.grd ?_
    | refine Le.bind ?_ (fun _ => ?_)
    | refine Le.cond ?_ ?_
    | refine Le.map ?_
    | refine Le.elim (fun _ => ?_) (fun _ => ?_)
    | refine Le.loop (fun _ => ?_)
    | refine Le.loopF (fun _ => ?_)
theorem LE_vint_Zig (p0 : Int) : Le (X_vint_Zig p0) (F_vint_Zig p0) := by
  unfold X_vint_Zig F_vint_Zig
  repeat' with_reducible first
    | exact Le.non _
    | exact Le.rf _
    | refine Le.grd ?_
    | refine Le.bind ?_ (fun _ => ?_)
    | refine Le.cond ?_ ?_
    | refine Le.map ?_
    | refine Le.elim (fun _ => ?_) (fun _ => ?_)
    | refine Le.loop (fun _ => ?_)
    | refine Le.loopF (fun _ => ?_)
theorem LE_vint_PutInt (p0 : ByteArray) (p1 : Int) : Le (X_vint_PutInt p0 p1) (F_vint_PutInt p0 p1) := by
  unfold X_vint_PutInt F_vint_PutInt
  repeat' with_reducible first
    | apply LE_vint_Zig
    | apply LE_vint_Put
    | exact Le.non _
    | exact Le.rf _
    | refine Le.grd ?_
    | refine Le.bind ?_ (fun _ => ?_)
    | refine Le.cond ?_ ?_
    | refine Le.map ?_
    | refine Le.elim (fun _ => ?_) (fun _ => ?_)
    | refine Le.loop (fun _ => ?_)
    | refine Le.loopF (fun _ => ?_)
theorem LE_wire_Writer_Int (p1 : Int) (o0 : T_wire_Writer) : Le (X_wire_Writer_Int p1 o0) (F_wire_Writer_Int p1 o0) := by
  unfold X_wire_Writer_Int F_wire_Writer_Int
  repeat' with_reducible first
    | apply LE_vint_PutInt
    | apply LE_wire_Writer_add
    | exact Le.non _
    | exact Le.rf _
    | refine Le.grd ?_
    | refine Le.bind ?_ (fun _ => ?_)
    | refine Le.cond ?_ ?_
    | refine Le.map ?_
    | refine Le.elim (fun _ => ?_) (fun _ => ?_)
    | refine Le.loop (fun _ => ?_)
    | refine Le.loopF (fun _ => ?_)
theorem LE_wire_Writer_Bytes (o0 : T_wire_Writer) : Le (X_wire_Writer_Bytes o0) (F_wire_Writer_Bytes o0) := by
  unfold X_wire_Writer_Bytes F_wire_Writer_Bytes
  repeat' with_reducible first
    | exact Le.non _
    | exact Le.rf _
    | refine Le.grd ?_
    | refine Le.bind ?_ (fun _ => ?_)
    | refine Le.cond ?_ ?_
    | refine Le.map ?_
    | refine Le.elim (fun _ => ?_) (fun _ => ?_)
    | refine Le.loop (fun _ => ?_)
    | refine Le.loopF (fun _ => ?_)
theorem LE_event_Put_L1 (p0 : (List T_api_Event)) (x21 : Int) (x22 : (List Int)) : Le (X_event_Put_L1 p0 x21 x22) (F_event_Put_L1 p0 x21 x22) := by
  unfold X_event_Put_L1 F_event_Put_L1
  repeat' with_reducible first
    | apply LE_wire_Writer_Int
    | apply LE_wire_Writer_Bytes
    | exact Le.non _
    | exact Le.rf _
    | refine Le.grd ?_
    | refine Le.bind ?_ (fun _ => ?_)
    | refine Le.cond ?_ ?_
    | refine Le.map ?_
    | refine Le.elim (fun _ => ?_) (fun _ => ?_)
    | refine Le.loop (fun _ => ?_)
    | refine Le.loopF (fun _ => ?_)
theorem LE_event_Put (p0 : (List T_api_Event)) : Le (X_event_Put p0) (F_event_Put p0) := by
  unfold X_event_Put F_event_Put
  repeat' with_reducible first
    | apply LE_wire_Writer_Num
    | apply LE_event_Put_L1
    | exact Le.non _
    | exact Le.rf _
    | refine Le.grd ?_
    | refine Le.bind ?_ (fun _ => ?_)
    | refine Le.cond ?_ ?_
    | refine Le.map ?_
    | refine Le.elim (fun _ => ?_) (fun _ => ?_)
    | refine Le.loop (fun _ => ?_)
    | refine Le.loopF (fun _ => ?_)
theorem LE_wire_Open (p0 : ByteArray) : Le (X_wire_Open p0) (F_wire_Open p0) := by
  unfold X_wire_Open F_wire_Open
  repeat' with_reducible first
    | exact Le.non _
    | exact Le.rf _
    | refine Le.grd ?_
    | refine Le.bind ?_ (fun _ => ?_)
    | refine Le.cond ?_ ?_
    | refine Le.map ?_
    | refine Le.elim (fun _ => ?_) (fun _ => ?_)
    | refine Le.loop (fun _ => ?_)
    | refine Le.loopF (fun _ => ?_)
theorem LE_vint_Get_J2 (x90 : Int) : Le (X_vint_Get_J2 x90) (F_vint_Get_J2 x90) := by
  unfold X_vint_Get_J2 F_vint_Get_J2
  repeat' with_reducible first
    | exact Le.non _
    | exact Le.rf _
    | refine Le.grd ?_
    | refine Le.bind ?_ (fun _ => ?_)
    | refine Le.cond ?_ ?_
    | refine Le.map ?_
    | refine Le.elim (fun _ => ?_) (fun _ => ?_)
    | refine Le.loop (fun _ => ?_)
    | refine Le.loopF (fun _ => ?_)
theorem LE_vint_Get_J3 (p1 : Int) (x95 : Int) (x96 : Int) (y135 : Int) (x156 : Bool) : Le (X_vint_Get_J3 p1 x95 x96 y135 x156) (F_vint_Get_J3 p1 x95 x96 y135 x156) := by
  unfold X_vint_Get_J3 F_vint_Get_J3
  repeat' with_reducible first
    | apply LE_vint_Get_J2
    | exact Le.non _
    | exact Le.rf _
    | refine Le.grd ?_
    | refine Le.bind ?_ (fun _ => ?_)
    | refine Le.cond ?_ ?_
    | refine Le.map ?_
    | refine Le.elim (fun _ => ?_) (fun _ => ?_)
    | refine Le.loop (fun _ => ?_)
    | refine Le.loopF (fun _ => ?_)
theorem LE_vint_Get_J4 (p1 : Int) (x95 : Int) (x96 : Int) (y135 : Int) (x167 : Bool) : Le (X_vint_Get_J4 p1 x95 x96 y135 x167) (F_vint_Get_J4 p1 x95 x96 y135 x167) := by
  unfold X_vint_Get_J4 F_vint_Get_J4
  repeat' with_reducible first
    | apply LE_vint_Get_J3
    | exact Le.non _
    | exact Le.rf _
    | refine Le.grd ?_
    | refine Le.bind ?_ (fun _ => ?_)
    | refine Le.cond ?_ ?_
    | refine Le.map ?_
    | refine Le.elim (fun _ => ?_) (fun _ => ?_)
    | refine Le.loop (fun _ => ?_)
    | refine Le.loopF (fun _ => ?_)
theorem LE_vint_Get_L5 (p0 : ByteArray) (p1 : Int) (x95 : Int) (x96 : Int) : Le (X_vint_Get_L5 p0 p1 x95 x96) (F_vint_Get_L5 p0 p1 x95 x96) := by
  unfold X_vint_Get_L5 F_vint_Get_L5
  repeat' with_reducible first
    | apply LE_vint_Get_J4
    | apply LE_vint_Get_J2
    | exact Le.non _
    | exact Le.rf _
    | refine Le.grd ?_
    | refine Le.bind ?_ (fun _ => ?_)
    | refine Le.cond ?_ ?_
    | refine Le.map ?_
    | refine Le.elim (fun _ => ?_) (fun _ => ?_)
    | refine Le.loop (fun _ => ?_)
    | refine Le.loopF (fun _ => ?_)
theorem LE_vint_Get_J1 (p0 : ByteArray) (p1 : Int) (x6 : Bool) : Le (X_vint_Get_J1 p0 p1 x6) (F_vint_Get_J1 p0 p1 x6) := by
  unfold X_vint_Get_J1 F_vint_Get_J1
  repeat' with_reducible first
    | apply LE_vint_Get_L5
    | exact Le.non _
    | exact Le.rf _
    | refine Le.grd ?_
    | refine Le.bind ?_ (fun _ => ?_)
    | refine Le.cond ?_ ?_
    | refine Le.map ?_
    | refine Le.elim (fun _ => ?_) (fun _ => ?_)
    | refine Le.loop (fun _ => ?_)
    | refine Le.loopF (fun _ => ?_)
theorem LE_vint_Get (p0 : ByteArray) (p1 : Int) : Le (X_vint_Get p0 p1) (F_vint_Get p0 p1) := by
  unfold X_vint_Get F_vint_Get
  repeat' with_reducible first
    | apply LE_vint_Get_J1
    | exact Le.non _
    | exact Le.rf _
    | refine Le.grd ?_
    | refine Le.bind ?_ (fun _ => ?_)
    | refine Le.cond ?_ ?_
    | refine Le.map ?_
    | refine Le.elim (fun _ => ?_) (fun _ => ?_)
    | refine Le.loop (fun _ => ?_)
    | refine Le.loopF (fun _ => ?_)
theorem LE_wire_Reader_Upto_1_J1 (y2 : Int × Int × Int) (x11 : Bool) : Le (X_wire_Reader_Upto_1_J1 y2 x11) (F_wire_Reader_Upto_1_J1 y2 x11) := by
  unfold X_wire_Reader_Upto_1_J1 F_wire_Reader_Upto_1_J1
  repeat' with_reducible first
    | exact Le.non _
    | exact Le.rf _
    | refine Le.grd ?_
    | refine Le.bind ?_ (fun _ => ?_)
    | refine Le.cond ?_ ?_
    | refine Le.map ?_
    | refine Le.elim (fun _ => ?_) (fun _ => ?_)
    | refine Le.loop (fun _ => ?_)
    | refine Le.loopF (fun _ => ?_)
theorem LE_wire_Reader_Upto_1 (p0 : ByteArray) (o0_0 : Int) (o1_0 : Int) : Le (X_wire_Reader_Upto_1 p0 o0_0 o1_0) (F_wire_Reader_Upto_1 p0 o0_0 o1_0) := by
  unfold X_wire_Reader_Upto_1 F_wire_Reader_Upto_1
  repeat' with_reducible first
    | apply LE_vint_Get
    | apply LE_wire_Reader_Upto_1_J1
    | exact Le.non _
    | exact Le.rf _
    | refine Le.grd ?_
    | refine Le.bind ?_ (fun _ => ?_)
    | refine Le.cond ?_ ?_
    | refine Le.map ?_
    | refine Le.elim (fun _ => ?_) (fun _ => ?_)
    | refine Le.loop (fun _ => ?_)
    | refine Le.loopF (fun _ => ?_)
theorem LE_wire_Reader_step (o0 : T_wire_Reader) (o1_0 : Int) (o2_0 : Int) : Le (X_wire_Reader_step o0 o1_0 o2_0) (F_wire_Reader_step o0 o1_0 o2_0) := by
  unfold X_wire_Reader_step F_wire_Reader_step
  repeat' with_reducible first
    | apply LE_wire_Reader_Upto_1
    | exact Le.non _
    | exact Le.rf _
    | refine Le.grd ?_
    | refine Le.bind ?_ (fun _ => ?_)
    | refine Le.cond ?_ ?_
    | refine Le.map ?_
    | refine Le.elim (fun _ => ?_) (fun _ => ?_)
    | refine Le.loop (fun _ => ?_)
    | refine Le.loopF (fun _ => ?_)
theorem LE_wire_Reader_Upto (p1 : Int) (o0 : T_wire_Reader) : Le (X_wire_Reader_Upto p1 o0) (F_wire_Reader_Upto p1 o0) := by
  unfold X_wire_Reader_Upto F_wire_Reader_Upto
  repeat' with_reducible first
    | apply LE_wire_Reader_step
    | exact Le.non _
    | exact Le.rf _
    | refine Le.grd ?_
    | refine Le.bind ?_ (fun _ => ?_)
    | refine Le.cond ?_ ?_
    | refine Le.map ?_
    | refine Le.elim (fun _ => ?_) (fun _ => ?_)
    | refine Le.loop (fun _ => ?_)
    | refine Le.loopF (fun _ => ?_)
theorem LE_wire_Reader_Err (o0 : T_wire_Reader) : Le (X_wire_Reader_Err o0) (F_wire_Reader_Err o0) := by
  unfold X_wire_Reader_Err F_wire_Reader_Err
  repeat' with_reducible first
    | exact Le.non _
    | exact Le.rf _
    | refine Le.grd ?_
    | refine Le.bind ?_ (fun _ => ?_)
    | refine Le.cond ?_ ?_
    | refine Le.map ?_
    | refine Le.elim (fun _ => ?_) (fun _ => ?_)
    | refine Le.loop (fun _ => ?_)
    | refine Le.loopF (fun _ => ?_)
theorem LE_vint_Zag (p0 : Int) : Le (X_vint_Zag p0) (F_vint_Zag p0) := by
  unfold X_vint_Zag F_vint_Zag
  repeat' with_reducible first
    | exact Le.non _
    | exact Le.rf _
    | refine Le.grd ?_
    | refine Le.bind ?_ (fun _ => ?_)
    | refine Le.cond ?_ ?_
    | refine Le.map ?_
    | refine Le.elim (fun _ => ?_) (fun _ => ?_)
    | refine Le.loop (fun _ => ?_)
    | refine Le.loopF (fun _ => ?_)
theorem LE_vint_GetInt (p0 : ByteArray) (p1 : Int) : Le (X_vint_GetInt p0 p1) (F_vint_GetInt p0 p1) := by
  unfold X_vint_GetInt F_vint_GetInt
  repeat' with_reducible first
    | apply LE_vint_Get
    | apply LE_vint_Zag
    | exact Le.non _
    | exact Le.rf _
    | refine Le.grd ?_
    | refine Le.bind ?_ (fun _ => ?_)
    | refine Le.cond ?_ ?_
    | refine Le.map ?_
    | refine Le.elim (fun _ => ?_) (fun _ => ?_)
    | refine Le.loop (fun _ => ?_)
    | refine Le.loopF (fun _ => ?_)
theorem LE_wire_Reader_Int_1 (p0 : ByteArray) (o0_0 : Int) : Le (X_wire_Reader_Int_1 p0 o0_0) (F_wire_Reader_Int_1 p0 o0_0) := by
  unfold X_wire_Reader_Int_1 F_wire_Reader_Int_1
  repeat' with_reducible first
    | apply LE_vint_GetInt
    | exact Le.non _
    | exact Le.rf _
    | refine Le.grd ?_
    | refine Le.bind ?_ (fun _ => ?_)
    | refine Le.cond ?_ ?_
    | refine Le.map ?_
    | refine Le.elim (fun _ => ?_) (fun _ => ?_)
    | refine Le.loop (fun _ => ?_)
    | refine Le.loopF (fun _ => ?_)
theorem LE_wire_Reader_step_v2 (o0 : T_wire_Reader) (o1_0 : Int) : Le (X_wire_Reader_step_v2 o0 o1_0) (F_wire_Reader_step_v2 o0 o1_0) := by
  unfold X_wire_Reader_step_v2 F_wire_Reader_step_v2
  repeat' with_reducible first
    | apply LE_wire_Reader_Int_1
    | exact Le.non _
    | exact Le.rf _
    | refine Le.grd ?_
    | refine Le.bind ?_ (fun _ => ?_)
    | refine Le.cond ?_ ?_
    | refine Le.map ?_
    | refine Le.elim (fun _ => ?_) (fun _ => ?_)
    | refine Le.loop (fun _ => ?_)
    | refine Le.loopF (fun _ => ?_)
theorem LE_wire_Reader_Int (o0 : T_wire_Reader) : Le (X_wire_Reader_Int o0) (F_wire_Reader_Int o0) := by
  unfold X_wire_Reader_Int F_wire_Reader_Int
  repeat' with_reducible first
    | apply LE_wire_Reader_step_v2
    | exact Le.non _
    | exact Le.rf _
    | refine Le.grd ?_
    | refine Le.bind ?_ (fun _ => ?_)
    | refine Le.cond ?_ ?_
    | refine Le.map ?_
    | refine Le.elim (fun _ => ?_) (fun _ => ?_)
    | refine Le.loop (fun _ => ?_)
    | refine Le.loopF (fun _ => ?_)
theorem LE_wire_Reader_Left (o0 : T_wire_Reader) : Le (X_wire_Reader_Left o0) (F_wire_Reader_Left o0) := by
  unfold X_wire_Reader_Left F_wire_Reader_Left
  repeat' with_reducible first
    | exact Le.non _
    | exact Le.rf _
    | refine Le.grd ?_
    | refine Le.bind ?_ (fun _ => ?_)
    | refine Le.cond ?_ ?_
    | refine Le.map ?_
    | refine Le.elim (fun _ => ?_) (fun _ => ?_)
    | refine Le.loop (fun _ => ?_)
    | refine Le.loopF (fun _ => ?_)
theorem LE_wire_Reader_End_J1 (y10 : Int) (x13 : Bool) : Le (X_wire_Reader_End_J1 y10 x13) (F_wire_Reader_End_J1 y10 x13) := by
  unfold X_wire_Reader_End_J1 F_wire_Reader_End_J1
  repeat' with_reducible first
    | exact Le.non _
    | exact Le.rf _
    | refine Le.grd ?_
    | refine Le.bind ?_ (fun _ => ?_)
    | refine Le.cond ?_ ?_
    | refine Le.map ?_
    | refine Le.elim (fun _ => ?_) (fun _ => ?_)
    | refine Le.loop (fun _ => ?_)
    | refine Le.loopF (fun _ => ?_)
theorem LE_wire_Reader_End (o0 : T_wire_Reader) : Le (X_wire_Reader_End o0) (F_wire_Reader_End o0) := by
  unfold X_wire_Reader_End F_wire_Reader_End
  repeat' with_reducible first
    | apply LE_wire_Reader_Err
    | apply LE_wire_Reader_End_J1
    | apply LE_wire_Reader_Left
    | exact Le.non _
    | exact Le.rf _
    | refine Le.grd ?_
    | refine Le.bind ?_ (fun _ => ?_)
    | refine Le.cond ?_ ?_
    | refine Le.map ?_
    | refine Le.elim (fun _ => ?_) (fun _ => ?_)
    | refine Le.loop (fun _ => ?_)
    | refine Le.loopF (fun _ => ?_)
theorem LE_event_Check_J1 (x36 : Int) (x59 : Bool) : Le (X_event_Check_J1 x36 x59) (F_event_Check_J1 x36 x59) := by
  unfold X_event_Check_J1 F_event_Check_J1
  repeat' with_reducible first
    | exact Le.non _
    | exact Le.rf _
    | refine Le.grd ?_
    | refine Le.bind ?_ (fun _ => ?_)
    | refine Le.cond ?_ ?_
    | refine Le.map ?_
    | refine Le.elim (fun _ => ?_) (fun _ => ?_)
    | refine Le.loop (fun _ => ?_)
    | refine Le.loopF (fun _ => ?_)
theorem LE_event_Check_L2 (p0 : (List T_api_Event)) (x36 : Int) : Le (X_event_Check_L2 p0 x36) (F_event_Check_L2 p0 x36) := by
  unfold X_event_Check_L2 F_event_Check_L2
  repeat' with_reducible first
    | apply LE_event_Check_J1
    | exact Le.non _
    | exact Le.rf _
    | refine Le.grd ?_
    | refine Le.bind ?_ (fun _ => ?_)
    | refine Le.cond ?_ ?_
    | refine Le.map ?_
    | refine Le.elim (fun _ => ?_) (fun _ => ?_)
    | refine Le.loop (fun _ => ?_)
    | refine Le.loopF (fun _ => ?_)
theorem LE_event_Check (p0 : (List T_api_Event)) : Le (X_event_Check p0) (F_event_Check p0) := by
  unfold X_event_Check F_event_Check
  repeat' with_reducible first
    | apply LE_event_Check_L2
    | exact Le.non _
    | exact Le.rf _
    | refine Le.grd ?_
    | refine Le.bind ?_ (fun _ => ?_)
    | refine Le.cond ?_ ?_
    | refine Le.map ?_
    | refine Le.elim (fun _ => ?_) (fun _ => ?_)
    | refine Le.loop (fun _ => ?_)
    | refine Le.loopF (fun _ => ?_)
theorem LE_event_Get_J1 (x29 : ByteArray) (x30 : Int) (x31 : (List T_api_Event)) (x42 : Bool) : Le (X_event_Get_J1 x29 x30 x31 x42) (F_event_Get_J1 x29 x30 x31 x42) := by
  unfold X_event_Get_J1 F_event_Get_J1
  repeat' with_reducible first
    | apply LE_wire_Reader_Int
    | apply LE_wire_Reader_End
    | apply LE_event_Check
    | exact Le.non _
    | exact Le.rf _
    | refine Le.grd ?_
    | refine Le.bind ?_ (fun _ => ?_)
    | refine Le.cond ?_ ?_
    | refine Le.map ?_
    | refine Le.elim (fun _ => ?_) (fun _ => ?_)
    | refine Le.loop (fun _ => ?_)
    | refine Le.loopF (fun _ => ?_)
theorem LE_event_Get_L2 (y4 : Int × T_wire_Reader) (x29 : ByteArray) (x30 : Int) (x31 : (List T_api_Event)) : Le (X_event_Get_L2 y4 x29 x30 x31) (F_event_Get_L2 y4 x29 x30 x31) := by
  unfold X_event_Get_L2 F_event_Get_L2
  repeat' with_reducible first
    | apply LE_wire_Reader_Err
    | apply LE_event_Get_J1
    | exact Le.non _
    | exact Le.rf _
    | refine Le.grd ?_
    | refine Le.bind ?_ (fun _ => ?_)
    | refine Le.cond ?_ ?_
    | refine Le.map ?_
    | refine Le.elim (fun _ => ?_) (fun _ => ?_)
    | refine Le.loop (fun _ => ?_)
    | refine Le.loopF (fun _ => ?_)
theorem LE_event_Get (p0 : ByteArray) : Le (X_event_Get p0) (F_event_Get p0) := by
  unfold X_event_Get F_event_Get
  repeat' with_reducible first
    | apply LE_wire_Open
    | apply LE_wire_Reader_Upto
    | apply LE_event_Get_L2
    | exact Le.non _
    | exact Le.rf _
    | refine Le.grd ?_
    | refine Le.bind ?_ (fun _ => ?_)
    | refine Le.cond ?_ ?_
    | refine Le.map ?_
    | refine Le.elim (fun _ => ?_) (fun _ => ?_)
    | refine Le.loop (fun _ => ?_)
    | refine Le.loopF (fun _ => ?_)
theorem LE_event_begins (p0 : (List T_api_Event)) : Le (X_event_begins p0) (F_event_begins p0) := by
  unfold X_event_begins F_event_begins
  repeat' with_reducible first
    | exact Le.non _
    | exact Le.rf _
    | refine Le.grd ?_
    | refine Le.bind ?_ (fun _ => ?_)
    | refine Le.cond ?_ ?_
    | refine Le.map ?_
    | refine Le.elim (fun _ => ?_) (fun _ => ?_)
    | refine Le.loop (fun _ => ?_)
    | refine Le.loopF (fun _ => ?_)
theorem LE_R_event_Begin_0 (p0 : Int) (o1_0 : Int) (o2_0 : Int) : Le (X_R_event_Begin_0 p0 o1_0 o2_0) (F_R_event_Begin_0 p0 o1_0 o2_0) := by
  unfold X_R_event_Begin_0 F_R_event_Begin_0
  repeat' with_reducible first
    | exact Le.non _
    | exact Le.rf _
    | refine Le.grd ?_
    | refine Le.bind ?_ (fun _ => ?_)
    | refine Le.cond ?_ ?_
    | refine Le.map ?_
    | refine Le.elim (fun _ => ?_) (fun _ => ?_)
    | refine Le.loop (fun _ => ?_)
    | refine Le.loopF (fun _ => ?_)
theorem LE_event_begins_1_J1 (x2 : Int) (x25 : Int) : Le (X_event_begins_1_J1 x2 x25) (F_event_begins_1_J1 x2 x25) := by
  unfold X_event_begins_1_J1 F_event_begins_1_J1
  repeat' with_reducible first
    | exact Le.non _
    | exact Le.rf _
    | refine Le.grd ?_
    | refine Le.bind ?_ (fun _ => ?_)
    | refine Le.cond ?_ ?_
    | refine Le.map ?_
    | refine Le.elim (fun _ => ?_) (fun _ => ?_)
    | refine Le.loop (fun _ => ?_)
    | refine Le.loopF (fun _ => ?_)
theorem LE_event_begins_1_J2 (x1 : Int) (x28 : Int) : Le (X_event_begins_1_J2 x1 x28) (F_event_begins_1_J2 x1 x28) := by
  unfold X_event_begins_1_J2 F_event_begins_1_J2
  repeat' with_reducible first
    | exact Le.non _
    | exact Le.rf _
    | refine Le.grd ?_
    | refine Le.bind ?_ (fun _ => ?_)
    | refine Le.cond ?_ ?_
    | refine Le.map ?_
    | refine Le.elim (fun _ => ?_) (fun _ => ?_)
    | refine Le.loop (fun _ => ?_)
    | refine Le.loopF (fun _ => ?_)
theorem LE_event_begins_1_L3 (o2_0 : Int) (o3_0 : (List T_api_Event)) (x1 : Int) (x2 : Int) : Le (X_event_begins_1_L3 o2_0 o3_0 x1 x2) (F_event_begins_1_L3 o2_0 o3_0 x1 x2) := by
  unfold X_event_begins_1_L3 F_event_begins_1_L3
  repeat' with_reducible first
    | apply LE_R_event_Begin_0
    | apply LE_event_begins_1_J1
    | apply LE_event_begins_1_J2
    | exact Le.non _
    | exact Le.rf _
    | refine Le.grd ?_
    | refine Le.bind ?_ (fun _ => ?_)
    | refine Le.cond ?_ ?_
    | refine Le.map ?_
    | refine Le.elim (fun _ => ?_) (fun _ => ?_)
    | refine Le.loop (fun _ => ?_)
    | refine Le.loopF (fun _ => ?_)
theorem LE_event_begins_1 (o1_0 : Int) (o2_0 : Int) (o3_0 : (List T_api_Event)) : Le (X_event_begins_1 o1_0 o2_0 o3_0) (F_event_begins_1 o1_0 o2_0 o3_0) := by
  unfold X_event_begins_1 F_event_begins_1
  repeat' with_reducible first
    | apply LE_event_begins_1_L3
    | exact Le.non _
    | exact Le.rf _
    | refine Le.grd ?_
    | refine Le.bind ?_ (fun _ => ?_)
    | refine Le.cond ?_ ?_
    | refine Le.map ?_
    | refine Le.elim (fun _ => ?_) (fun _ => ?_)
    | refine Le.loop (fun _ => ?_)
    | refine Le.loopF (fun _ => ?_)
theorem LE_event_Begin (p0 : (List T_api_Event)) (p1 : Int) : Le (X_event_Begin p0 p1) (F_event_Begin p0 p1) := by
  unfold X_event_Begin F_event_Begin
  repeat' with_reducible first
    | apply LE_event_begins
    | apply LE_event_begins_1
    | exact Le.non _
    | exact Le.rf _
    | refine Le.grd ?_
    | refine Le.bind ?_ (fun _ => ?_)
    | refine Le.cond ?_ ?_
    | refine Le.map ?_
    | refine Le.elim (fun _ => ?_) (fun _ => ?_)
    | refine Le.loop (fun _ => ?_)
    | refine Le.loopF (fun _ => ?_)
theorem LE_R_event_Steps_0 (p0 : Int) (o1_0 : Int) : Le (X_R_event_Steps_0 p0 o1_0) (F_R_event_Steps_0 p0 o1_0) := by
  unfold X_R_event_Steps_0 F_R_event_Steps_0
  repeat' with_reducible first
    | exact Le.non _
    | exact Le.rf _
    | refine Le.grd ?_
    | refine Le.bind ?_ (fun _ => ?_)
    | refine Le.cond ?_ ?_
    | refine Le.map ?_
    | refine Le.elim (fun _ => ?_) (fun _ => ?_)
    | refine Le.loop (fun _ => ?_)
    | refine Le.loopF (fun _ => ?_)
theorem LE_event_begins_1_v2_J1 (x1 : Int) (x18 : Int) : Le (X_event_begins_1_v2_J1 x1 x18) (F_event_begins_1_v2_J1 x1 x18) := by
  unfold X_event_begins_1_v2_J1 F_event_begins_1_v2_J1
  repeat' with_reducible first
    | exact Le.non _
    | exact Le.rf _
    | refine Le.grd ?_
    | refine Le.bind ?_ (fun _ => ?_)
    | refine Le.cond ?_ ?_
    | refine Le.map ?_
    | refine Le.elim (fun _ => ?_) (fun _ => ?_)
    | refine Le.loop (fun _ => ?_)
    | refine Le.loopF (fun _ => ?_)
theorem LE_event_begins_1_v2_L2 (o2_0 : (List T_api_Event)) (x1 : Int) (x2 : Int) : Le (X_event_begins_1_v2_L2 o2_0 x1 x2) (F_event_begins_1_v2_L2 o2_0 x1 x2) := by
  unfold X_event_begins_1_v2_L2 F_event_begins_1_v2_L2
  repeat' with_reducible first
    | apply LE_R_event_Steps_0
    | apply LE_event_begins_1_v2_J1
    | exact Le.non _
    | exact Le.rf _
    | refine Le.grd ?_
    | refine Le.bind ?_ (fun _ => ?_)
    | refine Le.cond ?_ ?_
    | refine Le.map ?_
    | refine Le.elim (fun _ => ?_) (fun _ => ?_)
    | refine Le.loop (fun _ => ?_)
    | refine Le.loopF (fun _ => ?_)
theorem LE_event_begins_1_v2 (o1_0 : Int) (o2_0 : (List T_api_Event)) : Le (X_event_begins_1_v2 o1_0 o2_0) (F_event_begins_1_v2 o1_0 o2_0) := by
  unfold X_event_begins_1_v2 F_event_begins_1_v2
  repeat' with_reducible first
    | apply LE_event_begins_1_v2_L2
    | exact Le.non _
    | exact Le.rf _
    | refine Le.grd ?_
    | refine Le.bind ?_ (fun _ => ?_)
    | refine Le.cond ?_ ?_
    | refine Le.map ?_
    | refine Le.elim (fun _ => ?_) (fun _ => ?_)
    | refine Le.loop (fun _ => ?_)
    | refine Le.loopF (fun _ => ?_)
theorem LE_event_Steps (p0 : (List T_api_Event)) : Le (X_event_Steps p0) (F_event_Steps p0) := by
  unfold X_event_Steps F_event_Steps
  repeat' with_reducible first
    | apply LE_event_begins
    | apply LE_event_begins_1_v2
    | exact Le.non _
    | exact Le.rf _
    | refine Le.grd ?_
    | refine Le.bind ?_ (fun _ => ?_)
    | refine Le.cond ?_ ?_
    | refine Le.map ?_
    | refine Le.elim (fun _ => ?_) (fun _ => ?_)
    | refine Le.loop (fun _ => ?_)
    | refine Le.loopF (fun _ => ?_)
theorem LE_retraceref27_Same_L1 (p0 : (List T_api_Event)) (p1 : (List T_api_Event)) (x22 : Int) : Le (X_retraceref27_Same_L1 p0 p1 x22) (F_retraceref27_Same_L1 p0 p1 x22) := by
  unfold X_retraceref27_Same_L1 F_retraceref27_Same_L1
  repeat' with_reducible first
    | exact Le.non _
    | exact Le.rf _
    | refine Le.grd ?_
    | refine Le.bind ?_ (fun _ => ?_)
    | refine Le.cond ?_ ?_
    | refine Le.map ?_
    | refine Le.elim (fun _ => ?_) (fun _ => ?_)
    | refine Le.loop (fun _ => ?_)
    | refine Le.loopF (fun _ => ?_)
theorem LE_retraceref27_Same (p0 : (List T_api_Event)) (p1 : (List T_api_Event)) : Le (X_retraceref27_Same p0 p1) (F_retraceref27_Same p0 p1) := by
  unfold X_retraceref27_Same F_retraceref27_Same
  repeat' with_reducible first
    | apply LE_retraceref27_Same_L1
    | exact Le.non _
    | exact Le.rf _
    | refine Le.grd ?_
    | refine Le.bind ?_ (fun _ => ?_)
    | refine Le.cond ?_ ?_
    | refine Le.map ?_
    | refine Le.elim (fun _ => ?_) (fun _ => ?_)
    | refine Le.loop (fun _ => ?_)
    | refine Le.loopF (fun _ => ?_)
theorem LE_retracelaw31_live_J1 (x14 : Bool) : Le (X_retracelaw31_live_J1 x14) (F_retracelaw31_live_J1 x14) := by
  unfold X_retracelaw31_live_J1 F_retracelaw31_live_J1
  repeat' with_reducible first
    | exact Le.non _
    | exact Le.rf _
    | refine Le.grd ?_
    | refine Le.bind ?_ (fun _ => ?_)
    | refine Le.cond ?_ ?_
    | refine Le.map ?_
    | refine Le.elim (fun _ => ?_) (fun _ => ?_)
    | refine Le.loop (fun _ => ?_)
    | refine Le.loopF (fun _ => ?_)
theorem LE_retracelaw31_live  : Le (X_retracelaw31_live ) (F_retracelaw31_live ) := by
  unfold X_retracelaw31_live F_retracelaw31_live
  repeat' with_reducible first
    | apply LE_event_Put
    | apply LE_event_Get
    | apply LE_event_Check
    | apply LE_event_Begin
    | apply LE_event_Steps
    | apply LE_retraceref27_Same
    | apply LE_retracelaw31_live_J1
    | exact Le.non _
    | exact Le.rf _
    | refine Le.grd ?_
    | refine Le.bind ?_ (fun _ => ?_)
    | refine Le.cond ?_ ?_
    | refine Le.map ?_
    | refine Le.elim (fun _ => ?_) (fun _ => ?_)
    | refine Le.loop (fun _ => ?_)
    | refine Le.loopF (fun _ => ?_)
theorem ev_retracelaw31_live : F_retracelaw31_live = some true := LE_retracelaw31_live _ (by kernel_rfl)
end Go.Ab
