import Derived.Test.YthjalpodmnagnaaAbLib
import Derived.Test.YthjalpodmnagnaaProg
namespace Go.Ab
open Go.Proofs
set_option linter.unusedVariables false
structure T_api_Event where
  Kind : Int
  N : Int
abbrev T_api_Event.enc (x : T_api_Event) : List D := [.int .i64 x.Kind, .int .i64 x.N]
theorem T_api_Event.enc_len (x : T_api_Event) : (T_api_Event.enc x).length = 2 := rfl
abbrev T_api_Event.pvs (x : T_api_Event) : List PV := [i64 x.Kind, i64 x.N]
structure T_wire_Writer where
  s : (List Int)
abbrev T_wire_Writer.enc (x : T_wire_Writer) : List D := [.list false (x.s).length (encL (eInt .u8) x.s)]
theorem T_wire_Writer.enc_len (x : T_wire_Writer) : (T_wire_Writer.enc x).length = 1 := rfl
abbrev T_wire_Writer.pvs (x : T_wire_Writer) : List PV := [lv (eInt .u8) x.s]
structure T_wire_Reader where
  s : ByteArray
  e : Int
abbrev T_wire_Reader.enc (x : T_wire_Reader) : List D := [.str x.s, .int .i64 x.e]
theorem T_wire_Reader.enc_len (x : T_wire_Reader) : (T_wire_Reader.enc x).length = 2 := rfl
abbrev T_wire_Reader.pvs (x : T_wire_Reader) : List PV := [sv x.s, i64 x.e]
structure T_retraceref31_Got where
  L : (List T_api_Event)
  E : Int
abbrev T_retraceref31_Got.enc (x : T_retraceref31_Got) : List D := [.list false (x.L).length (encL T_api_Event.enc x.L), .int .i64 x.E]
theorem T_retraceref31_Got.enc_len (x : T_retraceref31_Got) : (T_retraceref31_Got.enc x).length = 2 := rfl
abbrev T_retraceref31_Got.pvs (x : T_retraceref31_Got) : List PV := [lv T_api_Event.enc x.L, i64 x.E]
structure T_retraceref03_Reader where
  S : ByteArray
  Bad : Int
abbrev T_retraceref03_Reader.enc (x : T_retraceref03_Reader) : List D := [.str x.S, .int .i64 x.Bad]
theorem T_retraceref03_Reader.enc_len (x : T_retraceref03_Reader) : (T_retraceref03_Reader.enc x).length = 2 := rfl
abbrev T_retraceref03_Reader.pvs (x : T_retraceref03_Reader) : List PV := [sv x.S, i64 x.Bad]
structure T_retraceref01_Got where
  U : Int
  Next : Int
  E : Int
abbrev T_retraceref01_Got.enc (x : T_retraceref01_Got) : List D := [.int .u64 x.U, .int .i64 x.Next, .int .i64 x.E]
theorem T_retraceref01_Got.enc_len (x : T_retraceref01_Got) : (T_retraceref01_Got.enc x).length = 3 := rfl
abbrev T_retraceref01_Got.pvs (x : T_retraceref01_Got) : List PV := [u64 x.U, i64 x.Next, i64 x.E]
noncomputable def as_event_Begin_0 : Code := cAt [1, 1, 0, 1, 0, 0] (bOf Try.f30)
noncomputable def bd_event_Begin_0 : Code := cAt [1, 1, 0, 1, 0, 1] (bOf Try.f30)
noncomputable def as_event_Steps_0 : Code := cAt [1, 1, 0, 1, 0, 0] (bOf Try.f28)
noncomputable def bd_event_Steps_0 : Code := cAt [1, 1, 0, 1, 0, 1] (bOf Try.f28)
noncomputable def as_retracelaw31_EventGoes_0 : Code := cAt [1, 1, 1, 1, 1, 1, 0, 1, 0, 0] (bOf Try.f10)
noncomputable def bd_retracelaw31_EventGoes_0 : Code := cAt [1, 1, 1, 1, 1, 1, 0, 1, 0, 1] (bOf Try.f10)
noncomputable def as_event_Each_1_0 : Code := cAt [1, 1, 1, 0, 1, 0, 0] (bOf Try.f68)
noncomputable def bd_event_Each_1_0 : Code := cAt [1, 1, 1, 0, 1, 0, 1] (bOf Try.f68)
/- vint_Size -/
noncomputable def F_vint_Size_L1 (x9 : Int) (x10 : Int) : Option ((Int × Int) ⊕ (Int)) :=
  cond (decide (128 ≤ x9)) (some (.inl ((Int.fdiv x9 128), (w64 (x10 + 1))))) ((some x10).map Sum.inr)
noncomputable def F_vint_Size (p0 : Int) : Option (Int) :=
  Loop (fun s : (Int × Int) => F_vint_Size_L1 s.1 s.2) (p0, 1)
/- vint_Put -/
noncomputable def F_vint_Put_L1 (x17 : Int) (x18 : (List Int)) : Option ((Int × (List Int)) ⊕ (ByteArray)) :=
  cond (decide (128 ≤ x17)) (grd (((x18).length + ([(bits .or .u8 (wu8 x17) 128)]).length) * 1 ≤ 140737488355328) <| some (.inl ((Int.fdiv x17 128), (x18 ++ [(bits .or .u8 (wu8 x17) 128)])))) ((grd (((x18).length + ([(wu8 x17)]).length) * 1 ≤ 140737488355328) <| some (strOfNums (x18 ++ [(wu8 x17)]))).map Sum.inr)
noncomputable def F_vint_Put (p0 : ByteArray) (p1 : Int) : Option (ByteArray) :=
  (F_vint_Size p1).bind fun y3 => grd ((0 : Int) ≤ 0 ∧ 0 ≤ (w64 ((p0.size : Int) + y3)) ∧ (w64 ((p0.size : Int) + y3)) ≤ 281474976710656 ∧ (1 : Int) * (w64 ((p0.size : Int) + y3)) ≤ 281474976710656) <| grd (((([] : List Int)).length + p0.size) * 1 ≤ 140737488355328) <| Loop (fun s : (Int × (List Int)) => F_vint_Put_L1 s.1 s.2) (p1, (([] : List Int) ++ (sB p0)))
/- wire_Writer_add -/
noncomputable def F_wire_Writer_add (p1 : ByteArray) (o0 : T_wire_Writer) : Option (T_wire_Writer) :=
  grd (((o0.s).length + p1.size) * 1 ≤ 140737488355328) <| some (⟨(o0.s ++ (sB p1))⟩ : T_wire_Writer)
/- wire_Writer_Num -/
noncomputable def F_wire_Writer_Num (p1 : Int) (o0 : T_wire_Writer) : Option (T_wire_Writer) :=
  (F_vint_Put (⟨#[]⟩ : ByteArray) p1).bind fun y1 => (F_wire_Writer_add y1 o0).bind fun y2 => some y2
/- vint_Zig -/
noncomputable def F_vint_Zig (p0 : Int) : Option (Int) :=
  some (bits .xor .u64 (wu64 ((wu64 p0) * 2)) (wu64 (Int.fdiv p0 9223372036854775808)))
/- vint_PutInt -/
noncomputable def F_vint_PutInt (p0 : ByteArray) (p1 : Int) : Option (ByteArray) :=
  (F_vint_Zig p1).bind fun y3 => (F_vint_Put p0 y3).bind fun y4 => some y4
/- wire_Writer_Int -/
noncomputable def F_wire_Writer_Int (p1 : Int) (o0 : T_wire_Writer) : Option (T_wire_Writer) :=
  (F_vint_PutInt (⟨#[]⟩ : ByteArray) p1).bind fun y1 => (F_wire_Writer_add y1 o0).bind fun y2 => some y2
/- wire_Writer_Bytes -/
noncomputable def F_wire_Writer_Bytes (o0 : T_wire_Writer) : Option (ByteArray) :=
  some (strOfNums o0.s)
/- event_Put -/
noncomputable def F_event_Put_L1 (p0 : (List T_api_Event)) (x21 : Int) (x22 : (List Int)) : Option ((Int × (List Int)) ⊕ (ByteArray)) :=
  cond (decide (x21 < ((p0).length : Int))) ((lAt p0 x21).bind fun y33 => (F_wire_Writer_Int y33.Kind (⟨x22⟩ : T_wire_Writer)).bind fun y35 => (F_wire_Writer_Int y33.N y35).bind fun y36 => some (.inl ((w64 (x21 + 1)), y36.s))) (((F_wire_Writer_Bytes (⟨x22⟩ : T_wire_Writer)).bind fun y40 => some y40).map Sum.inr)
noncomputable def F_event_Put (p0 : (List T_api_Event)) : Option (ByteArray) :=
  (F_wire_Writer_Num (wu64 ((p0).length : Int)) (⟨([] : List Int)⟩ : T_wire_Writer)).bind fun y2 => Loop (fun s : (Int × (List Int)) => F_event_Put_L1 p0 s.1 s.2) (0, y2.s)
/- wire_Open -/
noncomputable def F_wire_Open (p0 : ByteArray) : Option (T_wire_Reader) :=
  some (⟨p0, 0⟩ : T_wire_Reader)
/- vint_Get -/
noncomputable def F_vint_Get_J2 (x90 : Int) : Option (Int × Int × Int) :=
  some (0, 0, x90)
noncomputable def F_vint_Get_J3 (p1 : Int) (x95 : Int) (x96 : Int) (y135 : Int) (x156 : Bool) : Option ((Int × Int) ⊕ (Int × Int × Int)) :=
  cond x156 ((F_vint_Get_J2 3).map Sum.inr) (cond (decide (y135 < 128)) (grd ((0 : Int) ≤ (w64 (7 * x96))) <| (some ((bits .or .u64 x95 (wu64 ((wu64 y135) * 2 ^ (min (Int.toNat (w64 (7 * x96))) 64)))), (w64 ((w64 (p1 + x96)) + 1)), 0)).map Sum.inr) (grd ((0 : Int) ≤ (w64 (7 * x96))) <| some (.inl ((bits .or .u64 x95 (wu64 ((wu64 (bits .and .u8 y135 127)) * 2 ^ (min (Int.toNat (w64 (7 * x96))) 64)))), (w64 (x96 + 1))))))
noncomputable def F_vint_Get_J4 (p1 : Int) (x95 : Int) (x96 : Int) (y135 : Int) (x167 : Bool) : Option ((Int × Int) ⊕ (Int × Int × Int)) :=
  cond x167 (F_vint_Get_J3 p1 x95 x96 y135 x167) (cond (decide (0 < x96)) (F_vint_Get_J3 p1 x95 x96 y135 (y135 == 0)) (F_vint_Get_J3 p1 x95 x96 y135 false))
noncomputable def F_vint_Get_L5 (p0 : ByteArray) (p1 : Int) (x95 : Int) (x96 : Int) : Option ((Int × Int) ⊕ (Int × Int × Int)) :=
  cond (decide (x96 < (((sB (p0.extract (Int.toNat p1) (Int.toNat (p0.size : Int))))).length : Int))) ((lAt (sB (p0.extract (Int.toNat p1) (Int.toNat (p0.size : Int)))) x96).bind fun y135 => cond (x96 == 9) (F_vint_Get_J4 p1 x95 x96 y135 (decide (1 < y135))) (F_vint_Get_J4 p1 x95 x96 y135 false)) ((F_vint_Get_J2 2).map Sum.inr)
noncomputable def F_vint_Get_J1 (p0 : ByteArray) (p1 : Int) (x6 : Bool) : Option (Int × Int × Int) :=
  cond x6 (some (0, 0, 1)) (grd ((0 : Int) ≤ p1 ∧ p1 ≤ (p0.size : Int) ∧ (p0.size : Int) ≤ (p0.size : Int)) <| grd ((p0.extract (Int.toNat p1) (Int.toNat (p0.size : Int))).size ≤ 281474976710656) <| Loop (fun s : (Int × Int) => F_vint_Get_L5 p0 p1 s.1 s.2) (0, 0))
noncomputable def F_vint_Get (p0 : ByteArray) (p1 : Int) : Option (Int × Int × Int) :=
  cond (decide (p1 < 0)) (F_vint_Get_J1 p0 p1 true) (F_vint_Get_J1 p0 p1 (decide ((p0.size : Int) < p1)))
/- wire_Reader_Upto_1 -/
noncomputable def F_wire_Reader_Upto_1_J1 (y2 : Int × Int × Int) (x11 : Bool) : Option (Int × Int × Int) :=
  cond x11 (some (0, 6, y2.1)) (some (y2.2.1, y2.2.2, y2.1))
noncomputable def F_wire_Reader_Upto_1 (p0 : ByteArray) (o0_0 : Int) (o1_0 : Int) : Option (Int × Int × Int) :=
  (F_vint_Get p0 0).bind fun y2 => cond (y2.2.2 == 0) (cond (decide (o1_0 < 0)) (F_wire_Reader_Upto_1_J1 y2 true) (F_wire_Reader_Upto_1_J1 y2 (decide ((wu64 o1_0) < y2.1)))) (F_wire_Reader_Upto_1_J1 y2 false)
/- wire_Reader_step -/
noncomputable def F_wire_Reader_step (o0 : T_wire_Reader) (o1_0 : Int) (o2_0 : Int) : Option (Bool × T_wire_Reader × Int) :=
  cond (o0.e != 0) (some (false, o0, o1_0)) ((F_wire_Reader_Upto_1 o0.s o1_0 o2_0).bind fun y4 => cond (y4.2.1 != 0) (some (false, (⟨o0.s, y4.2.1⟩ : T_wire_Reader), y4.2.2)) (grd ((0 : Int) ≤ y4.1 ∧ y4.1 ≤ (o0.s.size : Int) ∧ (o0.s.size : Int) ≤ (o0.s.size : Int)) <| some (true, (⟨(o0.s.extract (Int.toNat y4.1) (Int.toNat (o0.s.size : Int))), o0.e⟩ : T_wire_Reader), y4.2.2)))
/- wire_Reader_Upto -/
noncomputable def F_wire_Reader_Upto (p1 : Int) (o0 : T_wire_Reader) : Option (Int × T_wire_Reader) :=
  (F_wire_Reader_step o0 0 p1).bind fun y2 => cond (!y2.1) (some (0, y2.2.1)) (some ((w64 y2.2.2), y2.2.1))
/- wire_Reader_Err -/
noncomputable def F_wire_Reader_Err (o0 : T_wire_Reader) : Option (Int) :=
  some o0.e
/- vint_Zag -/
noncomputable def F_vint_Zag (p0 : Int) : Option (Int) :=
  some (bits .xor .i64 (w64 (Int.fdiv p0 2)) (w64 (0 - (w64 (bits .and .u64 p0 1)))))
/- vint_GetInt -/
noncomputable def F_vint_GetInt (p0 : ByteArray) (p1 : Int) : Option (Int × Int × Int) :=
  (F_vint_Get p0 p1).bind fun y2 => (F_vint_Zag y2.1).bind fun y4 => some (y4, y2.2.1, y2.2.2)
/- wire_Reader_Int_1 -/
noncomputable def F_wire_Reader_Int_1 (p0 : ByteArray) (o0_0 : Int) : Option (Int × Int × Int) :=
  (F_vint_GetInt p0 0).bind fun y2 => some (y2.2.1, y2.2.2, y2.1)
/- wire_Reader_step_v2 -/
noncomputable def F_wire_Reader_step_v2 (o0 : T_wire_Reader) (o1_0 : Int) : Option (Bool × T_wire_Reader × Int) :=
  cond (o0.e != 0) (some (false, o0, o1_0)) ((F_wire_Reader_Int_1 o0.s o1_0).bind fun y4 => cond (y4.2.1 != 0) (some (false, (⟨o0.s, y4.2.1⟩ : T_wire_Reader), y4.2.2)) (grd ((0 : Int) ≤ y4.1 ∧ y4.1 ≤ (o0.s.size : Int) ∧ (o0.s.size : Int) ≤ (o0.s.size : Int)) <| some (true, (⟨(o0.s.extract (Int.toNat y4.1) (Int.toNat (o0.s.size : Int))), o0.e⟩ : T_wire_Reader), y4.2.2)))
/- wire_Reader_Int -/
noncomputable def F_wire_Reader_Int (o0 : T_wire_Reader) : Option (Int × T_wire_Reader) :=
  (F_wire_Reader_step_v2 o0 0).bind fun y2 => some (y2.2.2, y2.2.1)
/- wire_Reader_Left -/
noncomputable def F_wire_Reader_Left (o0 : T_wire_Reader) : Option (Int) :=
  some (o0.s.size : Int)
/- wire_Reader_End -/
noncomputable def F_wire_Reader_End_J1 (y10 : Int) (x13 : Bool) : Option (Int) :=
  cond x13 (some y10) (some 3)
noncomputable def F_wire_Reader_End (o0 : T_wire_Reader) : Option (Int) :=
  (F_wire_Reader_Err o0).bind fun y10 => cond (y10 != 0) (F_wire_Reader_End_J1 y10 true) ((F_wire_Reader_Left o0).bind fun y16 => F_wire_Reader_End_J1 y10 (y16 == 0))
/- event_Check -/
noncomputable def F_event_Check_J1 (x36 : Int) (x59 : Bool) : Option ((Int) ⊕ (Int × Int)) :=
  cond x59 ((some (x36, 3)).map Sum.inr) (some (.inl (w64 (x36 + 1))))
noncomputable def F_event_Check_L2 (p0 : (List T_api_Event)) (x36 : Int) : Option ((Int) ⊕ (Int × Int)) :=
  cond (decide (x36 < ((p0).length : Int))) ((lAt p0 x36).bind fun y54 => cond (decide (y54.Kind < 1)) (F_event_Check_J1 x36 true) (cond (decide (3 < y54.Kind)) (F_event_Check_J1 x36 true) (cond (decide (y54.N < 0)) (F_event_Check_J1 x36 true) (cond (x36 == 0) (F_event_Check_J1 x36 (y54.Kind != 1)) (F_event_Check_J1 x36 false))))) ((some (0, 0)).map Sum.inr)
noncomputable def F_event_Check (p0 : (List T_api_Event)) : Option (Int × Int) :=
  cond (decide (65536 < ((p0).length : Int))) (some (65536, 13)) (Loop (fun s : (Int) => F_event_Check_L2 p0 s) 0)
/- event_Get -/
noncomputable def F_event_Get_J1 (x29 : ByteArray) (x30 : Int) (x31 : (List T_api_Event)) (x42 : Bool) : Option ((ByteArray × Int × (List T_api_Event)) ⊕ ((List T_api_Event) × Int)) :=
  cond x42 ((F_wire_Reader_Int (⟨x29, x30⟩ : T_wire_Reader)).bind fun y45 => (F_wire_Reader_Int y45.2).bind fun y47 => grd (((x31).length + ([(⟨y45.1, y47.1⟩ : T_api_Event)]).length) * 16 ≤ 140737488355328) <| some (.inl (y47.2.s, y47.2.e, (x31 ++ [(⟨y45.1, y47.1⟩ : T_api_Event)])))) (((F_wire_Reader_End (⟨x29, x30⟩ : T_wire_Reader)).bind fun y55 => cond (y55 != 0) (some (([] : List T_api_Event), y55)) ((F_event_Check x31).bind fun y61 => cond (y61.2 != 0) (some (([] : List T_api_Event), y61.2)) (some (x31, 0)))).map Sum.inr)
noncomputable def F_event_Get_L2 (y4 : Int × T_wire_Reader) (x29 : ByteArray) (x30 : Int) (x31 : (List T_api_Event)) : Option ((ByteArray × Int × (List T_api_Event)) ⊕ ((List T_api_Event) × Int)) :=
  cond (decide (((x31).length : Int) < y4.1)) ((F_wire_Reader_Err (⟨x29, x30⟩ : T_wire_Reader)).bind fun y64 => F_event_Get_J1 x29 x30 x31 (y64 == 0)) (F_event_Get_J1 x29 x30 x31 false)
noncomputable def F_event_Get (p0 : ByteArray) : Option ((List T_api_Event) × Int) :=
  (F_wire_Open p0).bind fun y2 => (F_wire_Reader_Upto 65536 y2).bind fun y4 => Loop (fun s : (ByteArray × Int × (List T_api_Event)) => F_event_Get_L2 y4 s.1 s.2.1 s.2.2) (y4.2.s, y4.2.e, ([] : (List T_api_Event)))
/- event_begins -/
noncomputable def F_event_begins (p0 : (List T_api_Event)) : Option ((List T_api_Event)) :=
  some p0
/- R_event_Begin_0 -/
noncomputable def F_R_event_Begin_0 (p0 : Int) (o1_0 : Int) (o2_0 : Int) : Option ((Int) ⊕ (Int)) :=
  cond (o1_0 == 0) (some (.inl p0)) (some (.inr (w64 (o1_0 - 1))))
/- event_begins_1 -/
noncomputable def F_event_begins_1_J1 (x2 : Int) (x25 : Int) : Option ((Int × Int) ⊕ ((Int × Int) ⊕ (Int))) :=
  (some (.inl (x2, x25))).map Sum.inr
noncomputable def F_event_begins_1_J2 (x1 : Int) (x28 : Int) : Option ((Int × Int) ⊕ ((Int × Int) ⊕ (Int))) :=
  some (.inl ((w64 (x1 + 1)), x28))
noncomputable def F_event_begins_1_L3 (o2_0 : Int) (o3_0 : (List T_api_Event)) (x1 : Int) (x2 : Int) : Option ((Int × Int) ⊕ ((Int × Int) ⊕ (Int))) :=
  cond (decide (x1 < ((o3_0).length : Int))) ((lAt o3_0 x1).bind fun y20 => cond (y20.Kind == 1) ((F_R_event_Begin_0 x1 x2 o2_0).bind fun y30 => (Sum.elim (fun y31 => F_event_begins_1_J1 x2 y31) (fun y32 => F_event_begins_1_J2 x1 y32)) y30) (F_event_begins_1_J2 x1 x2)) ((some (.inr x2)).map Sum.inr)
noncomputable def F_event_begins_1 (o1_0 : Int) (o2_0 : Int) (o3_0 : (List T_api_Event)) : Option ((Int × Int) ⊕ (Int)) :=
  Loop (fun s : (Int × Int) => F_event_begins_1_L3 o2_0 o3_0 s.1 s.2) (0, o1_0)
/- event_Begin -/
noncomputable def F_event_Begin (p0 : (List T_api_Event)) (p1 : Int) : Option (Int) :=
  cond (decide (p1 < 0)) (some (-1)) ((F_event_begins p0).bind fun y9 => (F_event_begins_1 p1 0 y9).bind fun y10 => (Sum.elim (fun y11 => some y11.2) (fun y12 => cond (y12 == 0) (some ((p0).length : Int)) (some (-1)))) y10)
/- R_event_Steps_0 -/
noncomputable def F_R_event_Steps_0 (p0 : Int) (o1_0 : Int) : Option (Int) :=
  some (w64 (o1_0 + 1))
/- event_begins_1_v2 -/
noncomputable def F_event_begins_1_v2_J1 (x1 : Int) (x18 : Int) : Option ((Int × Int) ⊕ (Int)) :=
  some (.inl ((w64 (x1 + 1)), x18))
noncomputable def F_event_begins_1_v2_L2 (o2_0 : (List T_api_Event)) (x1 : Int) (x2 : Int) : Option ((Int × Int) ⊕ (Int)) :=
  cond (decide (x1 < ((o2_0).length : Int))) ((lAt o2_0 x1).bind fun y15 => cond (y15.Kind == 1) ((F_R_event_Steps_0 x1 x2).bind fun y20 => F_event_begins_1_v2_J1 x1 y20) (F_event_begins_1_v2_J1 x1 x2)) ((some x2).map Sum.inr)
noncomputable def F_event_begins_1_v2 (o1_0 : Int) (o2_0 : (List T_api_Event)) : Option (Int) :=
  Loop (fun s : (Int × Int) => F_event_begins_1_v2_L2 o2_0 s.1 s.2) (0, o1_0)
/- event_Steps -/
noncomputable def F_event_Steps (p0 : (List T_api_Event)) : Option (Int) :=
  (F_event_begins p0).bind fun y5 => (F_event_begins_1_v2 0 y5).bind fun y6 => some y6
/- retraceref27_Same -/
noncomputable def F_retraceref27_Same_L1 (p0 : (List T_api_Event)) (p1 : (List T_api_Event)) (x22 : Int) : Option ((Int) ⊕ (Bool)) :=
  cond (decide (x22 < ((p0).length : Int))) ((lAt p0 x22).bind fun y34 => (lAt p1 x22).bind fun y35 => cond (!((y34.Kind == y35.Kind) && ((y34.N == y35.N) && true))) ((some false).map Sum.inr) (some (.inl (w64 (x22 + 1))))) ((some true).map Sum.inr)
noncomputable def F_retraceref27_Same (p0 : (List T_api_Event)) (p1 : (List T_api_Event)) : Option (Bool) :=
  cond (((p0).length : Int) != ((p1).length : Int)) (some false) (Loop (fun s : (Int) => F_retraceref27_Same_L1 p0 p1 s) 0)
/- retracelaw31_live -/
noncomputable def F_retracelaw31_live_J1 (x14 : Bool) : Option (Bool) :=
  some x14
noncomputable def F_retracelaw31_live  : Option (Bool) :=
  (F_event_Put ([(⟨1, 0⟩ : T_api_Event), (⟨3, 2⟩ : T_api_Event), (⟨1, 1⟩ : T_api_Event)])).bind fun y3 => (F_event_Get y3).bind fun y4 => (F_event_Check ([(⟨1, 0⟩ : T_api_Event), (⟨3, 2⟩ : T_api_Event), (⟨1, 1⟩ : T_api_Event)])).bind fun y6 => (F_event_Begin ([(⟨1, 0⟩ : T_api_Event), (⟨3, 2⟩ : T_api_Event), (⟨1, 1⟩ : T_api_Event)]) 1).bind fun y15 => cond (y15 == 2) ((F_event_Steps ([(⟨1, 0⟩ : T_api_Event), (⟨3, 2⟩ : T_api_Event), (⟨1, 1⟩ : T_api_Event)])).bind fun y17 => cond (y17 == 2) ((F_retraceref27_Same y4.1 ([(⟨1, 0⟩ : T_api_Event), (⟨3, 2⟩ : T_api_Event), (⟨1, 1⟩ : T_api_Event)])).bind fun y19 => cond y19 (cond (y4.2 == 0) (F_retracelaw31_live_J1 (y6.2 == 0)) (F_retracelaw31_live_J1 false)) (F_retracelaw31_live_J1 false)) (F_retracelaw31_live_J1 false)) (F_retracelaw31_live_J1 false)
/- event_Check_v2 -/
noncomputable def F_event_Check_v2_J1 (x36 : Int) (x59 : Bool) : Option ((Int) ⊕ (Int × Int)) :=
  cond x59 ((some (x36, 3)).map Sum.inr) (some (.inl (w64 (x36 + 1))))
noncomputable def F_event_Check_v2_L2 (o0 : (List T_api_Event)) (x36 : Int) : Option ((Int) ⊕ (Int × Int)) :=
  cond (decide (x36 < ((o0).length : Int))) ((lAt o0 x36).bind fun y54 => cond (decide (y54.Kind < 1)) (F_event_Check_v2_J1 x36 true) (cond (decide (3 < y54.Kind)) (F_event_Check_v2_J1 x36 true) (cond (decide (y54.N < 0)) (F_event_Check_v2_J1 x36 true) (cond (x36 == 0) (F_event_Check_v2_J1 x36 (y54.Kind != 1)) (F_event_Check_v2_J1 x36 false))))) ((some (0, 0)).map Sum.inr)
noncomputable def F_event_Check_v2 (o0 : (List T_api_Event)) : Option (Int × Int) :=
  cond (decide (65536 < ((o0).length : Int))) (some (65536, 13)) (Loop (fun s : (Int) => F_event_Check_v2_L2 o0 s) 0)
/- retraceref31_Check -/
noncomputable def F_retraceref31_Check_J1 (x57 : Int) (x90 : Bool) : Option ((Int) ⊕ ((List Int))) :=
  cond x90 (grd ((([x57, 3] : List Int)).length = 2 ∧ ((List.replicate 2 (0 : Int))).length = 2) <| (grd ((([x57, 3] : List Int)).length = 2) <| some ([x57, 3] : List Int)).map Sum.inr) (some (.inl (w64 (x57 + 1))))
noncomputable def F_retraceref31_Check_L2 (p0 : (List T_api_Event)) (x57 : Int) : Option ((Int) ⊕ ((List Int))) :=
  cond (decide (x57 < ((p0).length : Int))) ((lAt p0 x57).bind fun y97 => cond (decide (y97.Kind < 1)) (F_retraceref31_Check_J1 x57 true) ((lAt p0 x57).bind fun y99 => cond (decide (3 < y99.Kind)) (F_retraceref31_Check_J1 x57 true) ((lAt p0 x57).bind fun y101 => cond (decide (y101.N < 0)) (F_retraceref31_Check_J1 x57 true) (cond (x57 == 0) ((lAt p0 x57).bind fun y104 => F_retraceref31_Check_J1 x57 (y104.Kind != 1)) (F_retraceref31_Check_J1 x57 false))))) ((grd ((([0, 0] : List Int)).length = 2 ∧ ((List.replicate 2 (0 : Int))).length = 2) <| grd ((([0, 0] : List Int)).length = 2) <| some ([0, 0] : List Int)).map Sum.inr)
noncomputable def F_retraceref31_Check (p0 : (List T_api_Event)) : Option ((List Int)) :=
  cond (decide (65536 < ((p0).length : Int))) (grd ((([65536, 13] : List Int)).length = 2 ∧ ((List.replicate 2 (0 : Int))).length = 2) <| grd ((([65536, 13] : List Int)).length = 2) <| some ([65536, 13] : List Int)) (Loop (fun s : (Int) => F_retraceref31_Check_L2 p0 s) 0)
/- retracelaw31_EventChecks -/
noncomputable def F_retracelaw31_EventChecks_J1 (x19 : Bool) : Option (Bool) :=
  some x19
noncomputable def F_retracelaw31_EventChecks (p0 : (List T_api_Event)) (p1 : Int) : Option (Bool) :=
  cond (decide (300 < ((p0).length : Int))) ((F_retracelaw31_live).bind fun y6 => some y6) ((F_event_Check p0).bind fun y8 => grd ((0 : Int) ≤ (w64 (65537 + (w64 p1))) ∧ (w64 (65537 + (w64 p1))) ≤ (w64 (65537 + (w64 p1))) ∧ (w64 (65537 + (w64 p1))) ≤ 281474976710656 ∧ (16 : Int) * (w64 (65537 + (w64 p1))) ≤ 281474976710656) <| (F_event_Check_v2 (List.replicate (Int.toNat (w64 (65537 + (w64 p1)))) (⟨0, 0⟩ : T_api_Event))).bind fun y12 => (F_retraceref31_Check p0).bind fun y20 => grd ((([y8.1, y8.2] : List Int)).length = 2 ∧ (y20).length = 2) <| cond (([y8.1, y8.2] : List Int) == y20) (cond (y12.1 == 65536) (cond (y12.2 == 13) ((F_retracelaw31_live).bind fun y25 => F_retracelaw31_EventChecks_J1 y25) (F_retracelaw31_EventChecks_J1 false)) (F_retracelaw31_EventChecks_J1 false)) (F_retracelaw31_EventChecks_J1 false))
/- retraceref31_Begins -/
noncomputable def F_retraceref31_Begins_J1 (x18 : Int) (x28 : (List Int)) : Option ((Int × (List Int)) ⊕ ((List Int))) :=
  some (.inl ((w64 (x18 + 1)), x28))
noncomputable def F_retraceref31_Begins_L2 (p0 : (List T_api_Event)) (x18 : Int) (x19 : (List Int)) : Option ((Int × (List Int)) ⊕ ((List Int))) :=
  cond (decide (x18 < ((p0).length : Int))) ((lAt p0 x18).bind fun y30 => cond (y30.Kind == 1) (grd (((x19).length + ([x18]).length) * 8 ≤ 140737488355328) <| F_retraceref31_Begins_J1 x18 (x19 ++ [x18])) (F_retraceref31_Begins_J1 x18 x19)) ((some x19).map Sum.inr)
noncomputable def F_retraceref31_Begins (p0 : (List T_api_Event)) : Option ((List Int)) :=
  Loop (fun s : (Int × (List Int)) => F_retraceref31_Begins_L2 p0 s.1 s.2) (0, ([] : (List Int)))
/- retraceref31_Steps -/
noncomputable def F_retraceref31_Steps (p0 : (List T_api_Event)) : Option (Int) :=
  (F_retraceref31_Begins p0).bind fun y2 => some ((y2).length : Int)
/- retraceref31_Begin -/
noncomputable def F_retraceref31_Begin_J1 (p0 : (List T_api_Event)) (p1 : Int) (y3 : (List Int)) (x10 : Bool) : Option (Int) :=
  cond x10 (some (-1)) ((lAt (y3 ++ [((p0).length : Int)]) p1).bind fun y13 => some y13)
noncomputable def F_retraceref31_Begin (p0 : (List T_api_Event)) (p1 : Int) : Option (Int) :=
  (F_retraceref31_Begins p0).bind fun y3 => grd (((y3).length + ([((p0).length : Int)]).length) * 8 ≤ 140737488355328) <| cond (decide (p1 < 0)) (F_retraceref31_Begin_J1 p0 p1 y3 true) (F_retraceref31_Begin_J1 p0 p1 y3 (decide ((((y3 ++ [((p0).length : Int)])).length : Int) ≤ p1)))
/- retracelaw31_EventPlaces -/
noncomputable def F_retracelaw31_EventPlaces_J1 (x14 : Bool) : Option (Bool) :=
  some x14
noncomputable def F_retracelaw31_EventPlaces (p0 : (List T_api_Event)) (p1 : Int) : Option (Bool) :=
  cond (decide (300 < ((p0).length : Int))) ((F_retracelaw31_live).bind fun y6 => some y6) ((F_event_Steps p0).bind fun y15 => (F_retraceref31_Steps p0).bind fun y16 => cond (y15 == y16) ((F_event_Begin p0 p1).bind fun y18 => (F_retraceref31_Begin p0 p1).bind fun y19 => cond (y18 == y19) ((F_retracelaw31_live).bind fun y21 => F_retracelaw31_EventPlaces_J1 y21) (F_retracelaw31_EventPlaces_J1 false)) (F_retracelaw31_EventPlaces_J1 false))
/- retraceref01_Get -/
noncomputable def F_retraceref01_Get_J2 (p1 : Int) (x75 : Int) (x76 : Int) (x77 : Int) (y113 : Int) (x128 : Bool) : Option ((Int × Int × Int) ⊕ (T_retraceref01_Got)) :=
  cond x128 ((some (⟨0, 0, 3⟩ : T_retraceref01_Got)).map Sum.inr) (cond (decide (y113 < 128)) ((some (⟨(wu64 (x75 + (wu64 ((wu64 (Int.tmod y113 128)) * x76)))), (w64 ((w64 (p1 + x77)) + 1)), 0⟩ : T_retraceref01_Got)).map Sum.inr) (some (.inl ((wu64 (x75 + (wu64 ((wu64 (Int.tmod y113 128)) * x76)))), (wu64 (x76 * 128)), (w64 (x77 + 1))))))
noncomputable def F_retraceref01_Get_L3 (p0 : ByteArray) (p1 : Int) (x75 : Int) (x76 : Int) (x77 : Int) : Option ((Int × Int × Int) ⊕ (T_retraceref01_Got)) :=
  cond (decide (x77 < 10)) (cond (decide ((p0.size : Int) ≤ (w64 (p1 + x77)))) ((some (⟨0, 0, 2⟩ : T_retraceref01_Got)).map Sum.inr) ((sAt p0 (w64 (p1 + x77))).bind fun y113 => cond (x77 == 9) (cond (decide (1 < y113)) (F_retraceref01_Get_J2 p1 x75 x76 x77 y113 true) (cond (y113 == 0) (F_retraceref01_Get_J2 p1 x75 x76 x77 y113 (decide (0 < x77))) (F_retraceref01_Get_J2 p1 x75 x76 x77 y113 false))) (cond (y113 == 0) (F_retraceref01_Get_J2 p1 x75 x76 x77 y113 (decide (0 < x77))) (F_retraceref01_Get_J2 p1 x75 x76 x77 y113 false)))) ((some (⟨0, 0, 3⟩ : T_retraceref01_Got)).map Sum.inr)
noncomputable def F_retraceref01_Get_J1 (p0 : ByteArray) (p1 : Int) (x6 : Bool) : Option (T_retraceref01_Got) :=
  cond x6 (some (⟨0, 0, 1⟩ : T_retraceref01_Got)) (Loop (fun s : (Int × Int × Int) => F_retraceref01_Get_L3 p0 p1 s.1 s.2.1 s.2.2) (0, 1, 0))
noncomputable def F_retraceref01_Get (p0 : ByteArray) (p1 : Int) : Option (T_retraceref01_Got) :=
  cond (decide (p1 < 0)) (F_retraceref01_Get_J1 p0 p1 true) (F_retraceref01_Get_J1 p0 p1 (decide ((p0.size : Int) < p1)))
/- retraceref03_Reader_fail -/
noncomputable def F_retraceref03_Reader_fail (p1 : Int) (o0 : T_retraceref03_Reader) : Option (T_retraceref03_Reader) :=
  cond (o0.Bad == 0) (some (⟨o0.S, p1⟩ : T_retraceref03_Reader)) (some o0)
/- retraceref03_Reader_Num -/
noncomputable def F_retraceref03_Reader_Num (o0 : T_retraceref03_Reader) : Option (Int × T_retraceref03_Reader) :=
  cond (o0.Bad != 0) (some (0, o0)) ((F_retraceref01_Get o0.S 0).bind fun y4 => cond (y4.E != 0) ((F_retraceref03_Reader_fail y4.E o0).bind fun y10 => some (0, y10)) (grd ((0 : Int) ≤ y4.Next ∧ y4.Next ≤ (o0.S.size : Int) ∧ (o0.S.size : Int) ≤ (o0.S.size : Int)) <| some (y4.U, (⟨(o0.S.extract (Int.toNat y4.Next) (Int.toNat (o0.S.size : Int))), o0.Bad⟩ : T_retraceref03_Reader))))
/- retraceref03_Reader_Upto -/
noncomputable def F_retraceref03_Reader_Upto_J1 (o0 : T_retraceref03_Reader) (y2 : Int × T_retraceref03_Reader) (x13 : Bool) : Option (Int × T_retraceref03_Reader) :=
  cond x13 ((F_retraceref03_Reader_fail 6 (⟨o0.S, y2.2.Bad⟩ : T_retraceref03_Reader)).bind fun y16 => some (0, y16)) (some ((w64 y2.1), y2.2))
noncomputable def F_retraceref03_Reader_Upto (p1 : Int) (o0 : T_retraceref03_Reader) : Option (Int × T_retraceref03_Reader) :=
  (F_retraceref03_Reader_Num o0).bind fun y2 => cond (y2.2.Bad == 0) (cond (decide (p1 < 0)) (F_retraceref03_Reader_Upto_J1 o0 y2 true) (F_retraceref03_Reader_Upto_J1 o0 y2 (decide ((wu64 p1) < y2.1)))) (F_retraceref03_Reader_Upto_J1 o0 y2 false)
/- retraceref01_Zag -/
noncomputable def F_retraceref01_Zag (p0 : Int) : Option (Int) :=
  cond ((Int.tmod p0 2) == 1) (some (w64 ((w64 (0 - (w64 (wu64 (Int.tdiv p0 2))))) - 1))) (some (w64 (wu64 (Int.tdiv p0 2))))
/- retraceref03_Reader_Int -/
noncomputable def F_retraceref03_Reader_Int (o0 : T_retraceref03_Reader) : Option (Int × T_retraceref03_Reader) :=
  (F_retraceref03_Reader_Num o0).bind fun y3 => (F_retraceref01_Zag y3.1).bind fun y4 => some (y4, y3.2)
/- retraceref03_Reader_End -/
noncomputable def F_retraceref03_Reader_End_J1 (o0 : T_retraceref03_Reader) (x6 : Bool) : Option (Int) :=
  cond x6 (some 3) (some o0.Bad)
noncomputable def F_retraceref03_Reader_End (o0 : T_retraceref03_Reader) : Option (Int) :=
  cond (o0.Bad == 0) (F_retraceref03_Reader_End_J1 o0 (decide (0 < (o0.S.size : Int)))) (F_retraceref03_Reader_End_J1 o0 false)
/- retraceref31_Get -/
noncomputable def F_retraceref31_Get_J1 (x27 : Int) (x28 : ByteArray) (x29 : Int) (x30 : (List T_api_Event)) (x38 : Bool) : Option ((Int × ByteArray × Int × (List T_api_Event)) ⊕ (T_retraceref31_Got)) :=
  cond x38 ((F_retraceref03_Reader_Int (⟨x28, x29⟩ : T_retraceref03_Reader)).bind fun y45 => (F_retraceref03_Reader_Int y45.2).bind fun y46 => grd (((x30).length + ([(⟨y45.1, y46.1⟩ : T_api_Event)]).length) * 16 ≤ 140737488355328) <| some (.inl ((w64 (x27 + 1)), y46.2.S, y46.2.Bad, (x30 ++ [(⟨y45.1, y46.1⟩ : T_api_Event)])))) (((F_retraceref03_Reader_End (⟨x28, x29⟩ : T_retraceref03_Reader)).bind fun y54 => cond (y54 != 0) (some (⟨([] : List T_api_Event), y54⟩ : T_retraceref31_Got)) ((F_retraceref31_Check x30).bind fun y67 => grd ((y67).length = 2 ∧ ((List.replicate 2 (0 : Int))).length = 2) <| (aAt 2 y67 1).bind fun y70 => cond (y70 != 0) ((aAt 2 y67 1).bind fun y73 => some (⟨([] : List T_api_Event), y73⟩ : T_retraceref31_Got)) (some (⟨x30, 0⟩ : T_retraceref31_Got)))).map Sum.inr)
noncomputable def F_retraceref31_Get_L2 (y2 : Int × T_retraceref03_Reader) (x27 : Int) (x28 : ByteArray) (x29 : Int) (x30 : (List T_api_Event)) : Option ((Int × ByteArray × Int × (List T_api_Event)) ⊕ (T_retraceref31_Got)) :=
  cond (decide (x27 < y2.1)) (F_retraceref31_Get_J1 x27 x28 x29 x30 (x29 == 0)) (F_retraceref31_Get_J1 x27 x28 x29 x30 false)
noncomputable def F_retraceref31_Get (p0 : ByteArray) : Option (T_retraceref31_Got) :=
  (F_retraceref03_Reader_Upto 65536 (⟨p0, 0⟩ : T_retraceref03_Reader)).bind fun y2 => Loop (fun s : (Int × ByteArray × Int × (List T_api_Event)) => F_retraceref31_Get_L2 y2 s.1 s.2.1 s.2.2.1 s.2.2.2) (0, y2.2.S, y2.2.Bad, ([] : (List T_api_Event)))
/- retracelaw31_EventGets -/
noncomputable def F_retracelaw31_EventGets_J2 (x26 : Bool) : Option (Bool) :=
  some x26
noncomputable def F_retracelaw31_EventGets_J1 (p0 : ByteArray) (y8 : (List T_api_Event) × Int) (x19 : Bool) : Option (Bool) :=
  cond x19 (some false) (cond (y8.2 != 0) ((F_retracelaw31_live).bind fun y28 => F_retracelaw31_EventGets_J2 y28) ((F_event_Put y8.1).bind fun y29 => cond (y29.toList == p0.toList) ((F_retracelaw31_live).bind fun y31 => F_retracelaw31_EventGets_J2 y31) (F_retracelaw31_EventGets_J2 false)))
noncomputable def F_retracelaw31_EventGets (p0 : ByteArray) : Option (Bool) :=
  cond (decide (600 < (p0.size : Int))) ((F_retracelaw31_live).bind fun y6 => some y6) ((F_event_Get p0).bind fun y8 => (F_retraceref31_Get p0).bind fun y10 => (F_retraceref27_Same y8.1 y10.L).bind fun y32 => cond (!y32) (F_retracelaw31_EventGets_J1 p0 y8 true) (F_retracelaw31_EventGets_J1 p0 y8 (y8.2 != y10.E)))
/- retraceref31_Right -/
noncomputable def F_retraceref31_Right (p0 : (List T_api_Event)) : Option (Bool) :=
  (F_retraceref31_Check p0).bind fun y3 => grd ((y3).length = 2 ∧ (([0, 0] : List Int)).length = 2) <| some (y3 == ([0, 0] : List Int))
/- retraceref01_Num -/
noncomputable def F_retraceref01_Num_B (self : Int → Option (ByteArray)) (p0 : Int) : Option (ByteArray) :=
  cond (decide (p0 < 128)) (some (strOfNums ([(wu8 p0)]))) ((self (wu64 (Int.tdiv p0 128))).bind fun y5 => grd ((strOfNums ([(wu8 ((wu8 (Int.tmod p0 128)) + 128))])).size + y5.size ≤ 9223372036854775807) <| some ((strOfNums ([(wu8 ((wu8 (Int.tmod p0 128)) + 128))])) ++ y5))
noncomputable def F_retraceref01_Num_N : Nat → Int → Option (ByteArray)
  | 0 => fun _ => none
  | n + 1 => F_retraceref01_Num_B (F_retraceref01_Num_N n)
noncomputable def F_retraceref01_Num (p0 : Int) : Option (ByteArray) :=
  lim fun n => F_retraceref01_Num_N n p0
/- retraceref01_Zig -/
noncomputable def F_retraceref01_Zig (p0 : Int) : Option (Int) :=
  cond (decide (p0 < 0)) (some (wu64 ((wu64 ((wu64 (w64 (0 - (w64 (p0 + 1))))) * 2)) + 1))) (some (wu64 ((wu64 p0) * 2)))
/- retraceref03_Int -/
noncomputable def F_retraceref03_Int (p0 : Int) : Option (ByteArray) :=
  (F_retraceref01_Zig p0).bind fun y3 => (F_retraceref01_Num y3).bind fun y4 => some y4
/- retraceref31_Put -/
noncomputable def F_retraceref31_Put_L1 (p0 : (List T_api_Event)) (x23 : ByteArray) (x24 : Int) : Option ((ByteArray × Int) ⊕ (ByteArray)) :=
  cond (decide (x24 < ((p0).length : Int))) ((lAt p0 x24).bind fun y35 => (F_retraceref03_Int y35.Kind).bind fun y36 => grd (x23.size + y36.size ≤ 9223372036854775807) <| (lAt p0 x24).bind fun y38 => (F_retraceref03_Int y38.N).bind fun y39 => grd ((x23 ++ y36).size + y39.size ≤ 9223372036854775807) <| some (.inl (((x23 ++ y36) ++ y39), (w64 (x24 + 1))))) ((some x23).map Sum.inr)
noncomputable def F_retraceref31_Put (p0 : (List T_api_Event)) : Option (ByteArray) :=
  (F_retraceref01_Num (wu64 ((p0).length : Int))).bind fun y2 => Loop (fun s : (ByteArray × Int) => F_retraceref31_Put_L1 p0 s.1 s.2) (y2, 0)
/- retracelaw31_EventBack -/
noncomputable def F_retracelaw31_EventBack_J1 (x36 : Bool) : Option (Bool) :=
  some x36
noncomputable def F_retracelaw31_EventBack_J2 (x48 : Bool) : Option (Bool) :=
  some x48
noncomputable def F_retracelaw31_EventBack (p0 : (List T_api_Event)) : Option (Bool) :=
  cond (decide (300 < ((p0).length : Int))) ((F_retracelaw31_live).bind fun y6 => some y6) ((F_event_Put p0).bind fun y8 => (F_event_Get y8).bind fun y10 => (F_retraceref31_Right p0).bind fun y28 => cond y28 ((F_retraceref31_Put p0).bind fun y37 => cond (y8.toList == y37.toList) ((F_retraceref27_Same y10.1 p0).bind fun y39 => cond y39 (cond (y10.2 == 0) ((F_retracelaw31_live).bind fun y42 => F_retracelaw31_EventBack_J1 y42) (F_retracelaw31_EventBack_J1 false)) (F_retracelaw31_EventBack_J1 false)) (F_retracelaw31_EventBack_J1 false)) ((F_retraceref31_Put p0).bind fun y49 => cond (y8.toList == y49.toList) (cond (((y10.1).length : Int) == 0) (cond (y10.2 == 3) ((F_retracelaw31_live).bind fun y53 => F_retracelaw31_EventBack_J2 y53) (F_retracelaw31_EventBack_J2 false)) (F_retracelaw31_EventBack_J2 false)) (F_retracelaw31_EventBack_J2 false)))
/- event_Each -/
noncomputable def F_event_Each (p0 : (List T_api_Event)) : Option ((List T_api_Event)) :=
  some p0
/- slices_Clone_retrace_api_Event_retrace_api_Event -/
noncomputable def F_slices_Clone_retrace_api_Event_retrace_api_Event (p0 : (List T_api_Event)) : Option ((List T_api_Event)) :=
  grd (((([] : List T_api_Event)).length + (p0).length) * 16 ≤ 140737488355328) <| some (([] : List T_api_Event) ++ p0)
/- R_retracelaw31_EventGoes_0 -/
noncomputable def F_R_retracelaw31_EventGoes_0_J1 (o2_0 : Int) (o4_0 : Int) (o6 : (List T_api_Event)) (o7 : (List T_api_Event)) (x19 : Bool) : Option ((Bool) ⊕ (Int × (List T_api_Event)) ⊕ (Int × (List T_api_Event))) :=
  cond x19 (some (.inl false)) (grd (((o6).length + (o7).length) * 16 ≤ 140737488355328) <| cond ((w64 (o4_0 + 1)) == o2_0) (some (.inr (.inl ((w64 (o4_0 + 1)), (o6 ++ o7))))) (some (.inr (.inr ((w64 (o4_0 + 1)), (o6 ++ o7))))))
noncomputable def F_R_retracelaw31_EventGoes_0 (p0 : Int) (o1_0 : (List T_api_Event)) (o2_0 : Int) (o3_0 : Bool) (o4_0 : Int) (o6 : (List T_api_Event)) (o7 : (List T_api_Event)) : Option ((Bool) ⊕ (Int × (List T_api_Event)) ⊕ (Int × (List T_api_Event))) :=
  (F_retraceref31_Begin o1_0 o4_0).bind fun y3 => (F_retraceref31_Begin o1_0 (w64 (o4_0 + 1))).bind fun y4 => cond (p0 != o4_0) (F_R_retracelaw31_EventGoes_0_J1 o2_0 o4_0 o6 o7 true) (cond (decide (y4 < 0)) (F_R_retracelaw31_EventGoes_0_J1 o2_0 o4_0 o6 o7 true) (grd ((0 : Int) ≤ y3 ∧ y3 ≤ y4 ∧ y4 ≤ ((o1_0).length : Int)) <| (F_retraceref27_Same o7 (lCut o1_0 y3 y4)).bind fun y27 => F_R_retracelaw31_EventGoes_0_J1 o2_0 o4_0 o6 o7 (!y27)))
/- event_Each_1_1 -/
noncomputable def F_event_Each_1_1_J1 (p0 : Int) (o9_0 : Int) (x8 : Int) (x9 : (List T_api_Event)) : Option ((Int × Int × Int × (List T_api_Event)) ⊕ (Int × Bool × Int) ⊕ (Int × Int × Int × (List T_api_Event))) :=
  some (.inl (p0, x8, (w64 (o9_0 + 1)), x9))
noncomputable def F_event_Each_1_1_J2 (p0 : Int) (o9_0 : Int) (x10 : Bool) : Option ((Int × Int × Int × (List T_api_Event)) ⊕ (Int × Bool × Int) ⊕ (Int × Int × Int × (List T_api_Event))) :=
  some (.inr (.inl (p0, x10, (w64 (o9_0 + 1)))))
noncomputable def F_event_Each_1_1_J3 (p0 : Int) (o9_0 : Int) (x11 : Int) (x12 : (List T_api_Event)) : Option ((Int × Int × Int × (List T_api_Event)) ⊕ (Int × Bool × Int) ⊕ (Int × Int × Int × (List T_api_Event))) :=
  some (.inr (.inr (p0, x11, (w64 (o9_0 + 1)), x12)))
noncomputable def F_event_Each_1_1 (p0 : Int) (o0_0 : Int) (o3_0 : (List T_api_Event)) (o4_0 : Int) (o5_0 : Bool) (o6_0 : Int) (o9_0 : Int) (o10_0 : (List T_api_Event)) (o8 : (List T_api_Event)) : Option ((Int × Int × Int × (List T_api_Event)) ⊕ (Int × Bool × Int) ⊕ (Int × Int × Int × (List T_api_Event))) :=
  cond (decide (o0_0 < 0)) (F_event_Each_1_1_J1 p0 o9_0 o6_0 o8) (grd ((0 : Int) ≤ o0_0 ∧ o0_0 ≤ p0 ∧ p0 ≤ ((o10_0).length : Int)) <| (F_slices_Clone_retrace_api_Event_retrace_api_Event (lCut o10_0 o0_0 p0)).bind fun y15 => (F_R_retracelaw31_EventGoes_0 (w64 (o9_0 - 1)) o3_0 o4_0 o5_0 o6_0 o8 y15).bind fun y16 => (Sum.elim (fun y17 => F_event_Each_1_1_J2 p0 o9_0 y17) (Sum.elim (fun y18 => F_event_Each_1_1_J3 p0 o9_0 y18.1 y18.2) (fun y19 => F_event_Each_1_1_J1 p0 o9_0 y19.1 y19.2))) y16)
/- R_event_Each_1_0 -/
noncomputable def F_R_event_Each_1_0_J1 (x5 : Int) (x6 : Int) (x7 : (List T_api_Event)) (x8 : Int) : Option ((Int × Int × Int × (List T_api_Event)) ⊕ (Int × Bool × Int) ⊕ (Int × Int × Int × (List T_api_Event))) :=
  some (.inl (x5, x6, x8, x7))
noncomputable def F_R_event_Each_1_0_J2 (x9 : Int) (x10 : Bool) (x11 : Int) : Option ((Int × Int × Int × (List T_api_Event)) ⊕ (Int × Bool × Int) ⊕ (Int × Int × Int × (List T_api_Event))) :=
  some (.inr (.inl (x9, x10, x11)))
noncomputable def F_R_event_Each_1_0_J3 (x12 : Int) (x13 : Int) (x14 : (List T_api_Event)) (x15 : Int) : Option ((Int × Int × Int × (List T_api_Event)) ⊕ (Int × Bool × Int) ⊕ (Int × Int × Int × (List T_api_Event))) :=
  some (.inr (.inr (x12, x13, x15, x14)))
noncomputable def F_R_event_Each_1_0 (p0 : Int) (o2_0 : Int) (o5_0 : (List T_api_Event)) (o6_0 : Int) (o7_0 : Bool) (o8_0 : Int) (o11_0 : Int) (o12_0 : (List T_api_Event)) (o10 : (List T_api_Event)) : Option ((Int × Int × Int × (List T_api_Event)) ⊕ (Int × Bool × Int) ⊕ (Int × Int × Int × (List T_api_Event))) :=
  (F_event_Each_1_1 p0 o2_0 o5_0 o6_0 o7_0 o8_0 o11_0 o12_0 o10).bind fun y16 => (Sum.elim (fun y17 => F_R_event_Each_1_0_J1 y17.1 y17.2.1 y17.2.2.2 y17.2.2.1) (Sum.elim (fun y18 => F_R_event_Each_1_0_J2 y18.1 y18.2.1 y18.2.2) (fun y19 => F_R_event_Each_1_0_J3 y19.1 y19.2.1 y19.2.2.2 y19.2.2.1))) y16
/- event_begins_1_v3 -/
noncomputable def F_event_begins_1_v3_J1 (x1 : Int) (x40 : Int) (x41 : Int) (x42 : (List T_api_Event)) (x43 : Int) : Option ((Int × Int × Int × (List T_api_Event) × Int) ⊕ ((Int × Bool × Int × Int × (List T_api_Event)) ⊕ (Int × Int × Int × (List T_api_Event)) ⊕ (Int × Int × Int × (List T_api_Event)))) :=
  some (.inl ((w64 (x1 + 1)), x40, x41, x42, x43))
noncomputable def F_event_begins_1_v3_J2 (x3 : Int) (x4 : (List T_api_Event)) (x44 : Int) (x45 : Bool) (x46 : Int) : Option ((Int × Int × Int × (List T_api_Event) × Int) ⊕ ((Int × Bool × Int × Int × (List T_api_Event)) ⊕ (Int × Int × Int × (List T_api_Event)) ⊕ (Int × Int × Int × (List T_api_Event)))) :=
  (some (.inl (x44, x45, x3, x46, x4))).map Sum.inr
noncomputable def F_event_begins_1_v3_J3 (x49 : Int) (x50 : Int) (x51 : (List T_api_Event)) (x52 : Int) : Option ((Int × Int × Int × (List T_api_Event) × Int) ⊕ ((Int × Bool × Int × Int × (List T_api_Event)) ⊕ (Int × Int × Int × (List T_api_Event)) ⊕ (Int × Int × Int × (List T_api_Event)))) :=
  (some (.inr (.inl (x49, x50, x52, x51)))).map Sum.inr
noncomputable def F_event_begins_1_v3_L4 (o5_0 : (List T_api_Event)) (o6_0 : Int) (o7_0 : Bool) (o12_0 : (List T_api_Event)) (o13_0 : (List T_api_Event)) (x1 : Int) (x2 : Int) (x3 : Int) (x4 : (List T_api_Event)) (x5 : Int) : Option ((Int × Int × Int × (List T_api_Event) × Int) ⊕ ((Int × Bool × Int × Int × (List T_api_Event)) ⊕ (Int × Int × Int × (List T_api_Event)) ⊕ (Int × Int × Int × (List T_api_Event)))) :=
  cond (decide (x1 < ((o13_0).length : Int))) ((lAt o13_0 x1).bind fun y34 => cond (y34.Kind == 1) ((F_R_event_Each_1_0 x1 x2 o5_0 o6_0 o7_0 x3 x5 o12_0 x4).bind fun y56 => (Sum.elim (fun y57 => F_event_begins_1_v3_J1 x1 y57.1 y57.2.1 y57.2.2.2 y57.2.2.1) (Sum.elim (fun y58 => F_event_begins_1_v3_J2 x3 x4 y58.1 y58.2.1 y58.2.2) (fun y59 => F_event_begins_1_v3_J3 y59.1 y59.2.1 y59.2.2.2 y59.2.2.1))) y56) (F_event_begins_1_v3_J1 x1 x2 x3 x4 x5)) ((some (.inr (.inr (x2, x3, x5, x4)))).map Sum.inr)
noncomputable def F_event_begins_1_v3 (o2_0 : Int) (o5_0 : (List T_api_Event)) (o6_0 : Int) (o7_0 : Bool) (o8_0 : Int) (o11_0 : Int) (o12_0 : (List T_api_Event)) (o13_0 : (List T_api_Event)) (o10 : (List T_api_Event)) : Option ((Int × Bool × Int × Int × (List T_api_Event)) ⊕ (Int × Int × Int × (List T_api_Event)) ⊕ (Int × Int × Int × (List T_api_Event))) :=
  Loop (fun s : (Int × Int × Int × (List T_api_Event) × Int) => F_event_begins_1_v3_L4 o5_0 o6_0 o7_0 o12_0 o13_0 s.1 s.2.1 s.2.2.1 s.2.2.2.1 s.2.2.2.2) (0, o2_0, o8_0, o10, o11_0)
/- event_Each_1 -/
noncomputable def F_event_Each_1 (o1_0 : (List T_api_Event)) (o2_0 : Int) (o3_0 : Bool) (o4_0 : Int) (o7_0 : (List T_api_Event)) (o6 : (List T_api_Event)) : Option ((Bool × Int × (List T_api_Event)) ⊕ (Int × (List T_api_Event)) ⊕ (Int × (List T_api_Event))) :=
  (F_event_begins o7_0).bind fun y8 => (F_event_begins_1_v3 (-1) o1_0 o2_0 o3_0 o4_0 0 o7_0 y8 o6).bind fun y9 => (Sum.elim (fun y10 => some (.inl (y10.2.1, y10.2.2.1, y10.2.2.2.2))) (Sum.elim (fun y11 => some (.inr (.inl (y11.2.1, y11.2.2.2)))) (fun y12 => (F_event_Each_1_1 ((o7_0).length : Int) y12.1 o1_0 o2_0 o3_0 y12.2.1 y12.2.2.1 o7_0 y12.2.2.2).bind fun y13 => (Sum.elim (fun y14 => some (.inr (.inr (y14.2.1, y14.2.2.2)))) (Sum.elim (fun y15 => some (.inl (y15.2.1, y12.2.1, y12.2.2.2))) (fun y16 => some (.inr (.inl (y16.2.1, y16.2.2.2)))))) y13))) y9
/- retracelaw31_EventGoes -/
noncomputable def F_retracelaw31_EventGoes_J4 (x48 : Bool) : Option (Bool) :=
  some x48
noncomputable def F_retracelaw31_EventGoes_J3 (p0 : (List T_api_Event)) (x21 : Int) (x22 : (List T_api_Event)) (x31 : Bool) : Option (Bool) :=
  cond x31 (some false) ((F_retraceref31_Right p0).bind fun y55 => cond (!y55) ((F_retracelaw31_live).bind fun y57 => F_retracelaw31_EventGoes_J4 y57) ((F_retraceref31_Steps p0).bind fun y58 => cond (x21 != y58) ((F_retracelaw31_live).bind fun y60 => F_retracelaw31_EventGoes_J4 y60) ((F_retraceref27_Same x22 p0).bind fun y61 => cond y61 ((F_retracelaw31_live).bind fun y63 => F_retracelaw31_EventGoes_J4 y63) (F_retracelaw31_EventGoes_J4 false))))
noncomputable def F_retracelaw31_EventGoes_J2 (p0 : (List T_api_Event)) (p1 : Int) (x21 : Int) (x22 : (List T_api_Event)) : Option (Bool) :=
  (F_retraceref31_Steps p0).bind fun y64 => cond (x21 != y64) (F_retracelaw31_EventGoes_J3 p0 x21 x22 (x21 != p1)) (F_retracelaw31_EventGoes_J3 p0 x21 x22 false)
noncomputable def F_retracelaw31_EventGoes_J1 (p0 : (List T_api_Event)) (p1 : Int) (x11 : Bool) : Option (Bool) :=
  cond x11 ((F_retracelaw31_live).bind fun y14 => some y14) ((F_event_Each p0).bind fun y16 => (F_event_Each_1 p0 p1 false 0 y16 ([] : List T_api_Event)).bind fun y66 => (Sum.elim (fun y67 => some y67.1) (Sum.elim (fun y68 => F_retracelaw31_EventGoes_J2 p0 p1 y68.1 y68.2) (fun y69 => F_retracelaw31_EventGoes_J2 p0 p1 y69.1 y69.2))) y66)
noncomputable def F_retracelaw31_EventGoes (p0 : (List T_api_Event)) (p1 : Int) : Option (Bool) :=
  cond (decide (300 < ((p0).length : Int))) (F_retracelaw31_EventGoes_J1 p0 p1 true) ((F_retracelaw31_live).bind fun y71 => F_retracelaw31_EventGoes_J1 p0 p1 (!y71))

theorem mixedOrd : Try.prog.follows .mixedOrders = true := by kernel_rfl
end Go.Ab
