/- GS -/
import Derived.Test.YtkkaknlijebppaaAbCut
import Derived.Test.YtkkaknlijebppaaProg
namespace Go.Ab
open Go.Proofs
set_option linter.unusedVariables false
set_option maxRecDepth 100000
structure T_api_Event where
  Kind : Int
  N : Int
abbrev T_api_Event.enc (x : T_api_Event) : List D := [.int .i64 x.Kind, .int .i64 x.N]
theorem T_api_Event.enc_len (x : T_api_Event) : (T_api_Event.enc x).length = 2 := rfl
abbrev T_api_Event.pvs (x : T_api_Event) : List PV := [i64 x.Kind, i64 x.N]
structure T_api_Alt where
  Kind : Int
  Chan : Int
  Val : Int
  Slot : Int
  Goto : Int
abbrev T_api_Alt.enc (x : T_api_Alt) : List D := [.int .i64 x.Kind, .int .i64 x.Chan, .int .i64 x.Val, .int .i64 x.Slot, .int .i64 x.Goto]
theorem T_api_Alt.enc_len (x : T_api_Alt) : (T_api_Alt.enc x).length = 5 := rfl
abbrev T_api_Alt.pvs (x : T_api_Alt) : List PV := [i64 x.Kind, i64 x.Chan, i64 x.Val, i64 x.Slot, i64 x.Goto]
structure T_api_Proc where
  Def : Int
  At : Int
  Vars : (List Int)
  Fuel : Int
  Mode : Int
  Chan : Int
  Val : Int
  Slot : Int
  Until : Int
  Since : Int
  Alts : (List T_api_Alt)
abbrev T_api_Proc.enc (x : T_api_Proc) : List D := [.int .i64 x.Def, .int .i64 x.At, .list false (x.Vars).length (encL (eInt .i64) x.Vars), .int .i64 x.Fuel, .int .i64 x.Mode, .int .i64 x.Chan, .int .i64 x.Val, .int .i64 x.Slot, .int .i64 x.Until, .int .i64 x.Since, .list false (x.Alts).length (encL T_api_Alt.enc x.Alts)]
theorem T_api_Proc.enc_len (x : T_api_Proc) : (T_api_Proc.enc x).length = 11 := rfl
abbrev T_api_Proc.pvs (x : T_api_Proc) : List PV := [i64 x.Def, i64 x.At, lv (eInt .i64) x.Vars, i64 x.Fuel, i64 x.Mode, i64 x.Chan, i64 x.Val, i64 x.Slot, i64 x.Until, i64 x.Since, lv T_api_Alt.enc x.Alts]
structure T_api_State where
  Now : Int
  Since : Int
  Halt : Int
  Fault : Int
  Who : Int
  Procs : (List T_api_Proc)
  Out : (List Int)
abbrev T_api_State.enc (x : T_api_State) : List D := [.int .i64 x.Now, .int .i64 x.Since, .int .i64 x.Halt, .int .i64 x.Fault, .int .i64 x.Who, .list false (x.Procs).length (encL T_api_Proc.enc x.Procs), .list false (x.Out).length (encL (eInt .i64) x.Out)]
theorem T_api_State.enc_len (x : T_api_State) : (T_api_State.enc x).length = 7 := rfl
abbrev T_api_State.pvs (x : T_api_State) : List PV := [i64 x.Now, i64 x.Since, i64 x.Halt, i64 x.Fault, i64 x.Who, lv T_api_Proc.enc x.Procs, lv (eInt .i64) x.Out]
structure T_api_Mark where
  Step : Int
  Events : Int
  State : T_api_State
abbrev T_api_Mark.enc (x : T_api_Mark) : List D := [.int .i64 x.Step, .int .i64 x.Events, .int .i64 x.State.Now, .int .i64 x.State.Since, .int .i64 x.State.Halt, .int .i64 x.State.Fault, .int .i64 x.State.Who, .list false (x.State.Procs).length (encL T_api_Proc.enc x.State.Procs), .list false (x.State.Out).length (encL (eInt .i64) x.State.Out)]
theorem T_api_Mark.enc_len (x : T_api_Mark) : (T_api_Mark.enc x).length = 9 := rfl
abbrev T_api_Mark.pvs (x : T_api_Mark) : List PV := [i64 x.Step, i64 x.Events, i64 x.State.Now, i64 x.State.Since, i64 x.State.Halt, i64 x.State.Fault, i64 x.State.Who, lv T_api_Proc.enc x.State.Procs, lv (eInt .i64) x.State.Out]
structure T_api_Trace where
  Sum : Int
  Fuel : Int
  Every : Int
  Events : (List T_api_Event)
  Marks : (List T_api_Mark)
abbrev T_api_Trace.enc (x : T_api_Trace) : List D := [.int .u32 x.Sum, .int .i64 x.Fuel, .int .i64 x.Every, .list false (x.Events).length (encL T_api_Event.enc x.Events), .list false (x.Marks).length (encL T_api_Mark.enc x.Marks)]
theorem T_api_Trace.enc_len (x : T_api_Trace) : (T_api_Trace.enc x).length = 5 := rfl
abbrev T_api_Trace.pvs (x : T_api_Trace) : List PV := [u32 x.Sum, i64 x.Fuel, i64 x.Every, lv T_api_Event.enc x.Events, lv T_api_Mark.enc x.Marks]
structure T_api_Frame where
  Kind : Int
  Data : ByteArray
abbrev T_api_Frame.enc (x : T_api_Frame) : List D := [.int .i64 x.Kind, .str x.Data]
theorem T_api_Frame.enc_len (x : T_api_Frame) : (T_api_Frame.enc x).length = 2 := rfl
abbrev T_api_Frame.pvs (x : T_api_Frame) : List PV := [i64 x.Kind, sv x.Data]
structure T_wire_Reader where
  s : ByteArray
  e : Int
abbrev T_wire_Reader.enc (x : T_wire_Reader) : List D := [.str x.s, .int .i64 x.e]
theorem T_wire_Reader.enc_len (x : T_wire_Reader) : (T_wire_Reader.enc x).length = 2 := rfl
abbrev T_wire_Reader.pvs (x : T_wire_Reader) : List PV := [sv x.s, i64 x.e]
structure T_retraceref33_Got where
  T : T_api_Trace
  At : Int
  E : Int
abbrev T_retraceref33_Got.enc (x : T_retraceref33_Got) : List D := [.int .u32 x.T.Sum, .int .i64 x.T.Fuel, .int .i64 x.T.Every, .list false (x.T.Events).length (encL T_api_Event.enc x.T.Events), .list false (x.T.Marks).length (encL T_api_Mark.enc x.T.Marks), .int .i64 x.At, .int .i64 x.E]
theorem T_retraceref33_Got.enc_len (x : T_retraceref33_Got) : (T_retraceref33_Got.enc x).length = 7 := rfl
abbrev T_retraceref33_Got.pvs (x : T_retraceref33_Got) : List PV := [u32 x.T.Sum, i64 x.T.Fuel, i64 x.T.Every, lv T_api_Event.enc x.T.Events, lv T_api_Mark.enc x.T.Marks, i64 x.At, i64 x.E]
structure T_retraceref04_Got where
  F : T_api_Frame
  Next : Int
  E : Int
abbrev T_retraceref04_Got.enc (x : T_retraceref04_Got) : List D := [.int .i64 x.F.Kind, .str x.F.Data, .int .i64 x.Next, .int .i64 x.E]
theorem T_retraceref04_Got.enc_len (x : T_retraceref04_Got) : (T_retraceref04_Got.enc x).length = 4 := rfl
abbrev T_retraceref04_Got.pvs (x : T_retraceref04_Got) : List PV := [i64 x.F.Kind, sv x.F.Data, i64 x.Next, i64 x.E]
structure T_retraceref01_Got where
  U : Int
  Next : Int
  E : Int
abbrev T_retraceref01_Got.enc (x : T_retraceref01_Got) : List D := [.int .u64 x.U, .int .i64 x.Next, .int .i64 x.E]
theorem T_retraceref01_Got.enc_len (x : T_retraceref01_Got) : (T_retraceref01_Got.enc x).length = 3 := rfl
abbrev T_retraceref01_Got.pvs (x : T_retraceref01_Got) : List PV := [u64 x.U, i64 x.Next, i64 x.E]
structure T_retraceref32_Got where
  T : T_api_Trace
  E : Int
abbrev T_retraceref32_Got.enc (x : T_retraceref32_Got) : List D := [.int .u32 x.T.Sum, .int .i64 x.T.Fuel, .int .i64 x.T.Every, .list false (x.T.Events).length (encL T_api_Event.enc x.T.Events), .list false (x.T.Marks).length (encL T_api_Mark.enc x.T.Marks), .int .i64 x.E]
theorem T_retraceref32_Got.enc_len (x : T_retraceref32_Got) : (T_retraceref32_Got.enc x).length = 6 := rfl
abbrev T_retraceref32_Got.pvs (x : T_retraceref32_Got) : List PV := [u32 x.T.Sum, i64 x.T.Fuel, i64 x.T.Every, lv T_api_Event.enc x.T.Events, lv T_api_Mark.enc x.T.Marks, i64 x.E]
structure T_retraceref03_Reader where
  S : ByteArray
  Bad : Int
abbrev T_retraceref03_Reader.enc (x : T_retraceref03_Reader) : List D := [.str x.S, .int .i64 x.Bad]
theorem T_retraceref03_Reader.enc_len (x : T_retraceref03_Reader) : (T_retraceref03_Reader.enc x).length = 2 := rfl
abbrev T_retraceref03_Reader.pvs (x : T_retraceref03_Reader) : List PV := [sv x.S, i64 x.Bad]
structure T_retraceref31_Got where
  L : (List T_api_Event)
  E : Int
abbrev T_retraceref31_Got.enc (x : T_retraceref31_Got) : List D := [.list false (x.L).length (encL T_api_Event.enc x.L), .int .i64 x.E]
theorem T_retraceref31_Got.enc_len (x : T_retraceref31_Got) : (T_retraceref31_Got.enc x).length = 2 := rfl
abbrev T_retraceref31_Got.pvs (x : T_retraceref31_Got) : List PV := [lv T_api_Event.enc x.L, i64 x.E]
noncomputable def as_event_Begin_0 : Code := cAt [1, 1, 0, 1, 0, 0] (bOf Try.f22)
noncomputable def bd_event_Begin_0 : Code := cAt [1, 1, 0, 1, 0, 1] (bOf Try.f22)
noncomputable def as_event_Steps_0 : Code := cAt [1, 1, 0, 1, 0, 0] (bOf Try.f21)
noncomputable def bd_event_Steps_0 : Code := cAt [1, 1, 0, 1, 0, 1] (bOf Try.f21)
/- vint_Get -/
noncomputable def F_vint_Get_J2 (x90 : Int) : Option (Int × Int × Int) :=
  some (0, 0, x90)
noncomputable def F_vint_Get_J3 (p1 : Int) (x95 : Int) (x96 : Int) (y135 : Int) (x156 : Bool) : Option ((Int × Int) ⊕ (Int × Int × Int)) :=
  cond x156 ((F_vint_Get_J2 3).map Sum.inr) (cond (decide (y135 < 128)) (grd ((0 : Int) ≤ (w64 (7 * x96))) <| (some ((bits .or .u64 x95 (wu64 ((wu64 y135) * 2 ^ (min (Int.toNat (w64 (7 * x96))) 64)))), (w64 ((w64 (p1 + x96)) + 1)), 0)).map Sum.inr) (grd ((0 : Int) ≤ (w64 (7 * x96))) <| some (.inl ((bits .or .u64 x95 (wu64 ((wu64 (bits .and .u8 y135 127)) * 2 ^ (min (Int.toNat (w64 (7 * x96))) 64)))), (w64 (x96 + 1))))))
noncomputable def F_vint_Get_J4 (p1 : Int) (x95 : Int) (x96 : Int) (y135 : Int) (x167 : Bool) : Option ((Int × Int) ⊕ (Int × Int × Int)) :=
  cond x167 (F_vint_Get_J3 p1 x95 x96 y135 x167) (cond (decide (0 < x96)) (F_vint_Get_J3 p1 x95 x96 y135 (y135 == 0)) (F_vint_Get_J3 p1 x95 x96 y135 false))
noncomputable def F_vint_Get_L5 (p0 : ByteArray) (p1 : Int) (x95 : Int) (x96 : Int) : Option ((Int × Int) ⊕ (Int × Int × Int)) :=
  cond (decide (x96 < (((sB (p0.extract (Int.toNat p1) (Int.toNat (p0.size : Int))))).length : Int))) ((lAt (sB (p0.extract (Int.toNat p1) (Int.toNat (p0.size : Int)))) x96).bind fun y135 => cond (x96 == 9) (F_vint_Get_J4 p1 x95 x96 y135 (decide (1 < y135))) (F_vint_Get_J4 p1 x95 x96 y135 false)) ((F_vint_Get_J2 2).map Sum.inr)
noncomputable def F_vint_Get_J1 (p0 : ByteArray) (p1 : Int) (x6 : Bool) : Option (Int × Int × Int) :=
  cond x6 (some (0, 0, 1)) (grd ((0 : Int) ≤ p1 ∧ (p1 : Int) ≤ (p0.size : Int) ∧ (p0.size : Int) ≤ (p0.size : Int)) <| grd ((p0.extract (Int.toNat p1) (Int.toNat (p0.size : Int))).size ≤ 281474976710656) <| Loop (fun s : (Int × Int) => F_vint_Get_L5 p0 p1 s.1 s.2) (0, 0))
noncomputable def F_vint_Get (p0 : ByteArray) (p1 : Int) : Option (Int × Int × Int) :=
  cond (decide (p1 < 0)) (F_vint_Get_J1 p0 p1 true) (F_vint_Get_J1 p0 p1 (decide ((p0.size : Int) < p1)))
/- crc_table -/
noncomputable def F_crc_table_L1 (x43 : Int) (x44 : (List Int)) (x74 : Int) (x75 : Int) : Option ((Int × Int) ⊕ ((Int × (List Int)) ⊕ ((List Int)))) :=
  cond (decide (x75 < 8)) (some (.inl ((bits .xor .u32 (Int.fdiv x74 2) (bits .and .u32 3988292384 (wu32 (0 - (bits .and .u32 x74 1))))), (w64 (x75 + 1))))) ((grd ((0 : Int) ≤ x43 ∧ x43 < 256 ∧ Int.toNat x43 < (x44).length) <| some (.inl ((w64 (x43 + 1)), (List.set x44 (Int.toNat x43) x74)))).map Sum.inr)
noncomputable def F_crc_table_L2 (x43 : Int) (x44 : (List Int)) : Option ((Int × (List Int)) ⊕ ((List Int))) :=
  cond (decide (x43 < 256)) (Loop (fun s : (Int × Int) => F_crc_table_L1 x43 x44 s.1 s.2) ((wu32 x43), 0)) ((grd ((x44).length = 256) <| grd ((x44).length = 256 ∧ ((List.replicate 256 (0 : Int))).length = 256) <| grd ((x44).length = 256) <| some x44).map Sum.inr)
noncomputable def F_crc_table  : Option ((List Int)) :=
  Loop (fun s : (Int × (List Int)) => F_crc_table_L2 s.1 s.2) (0, (List.replicate 256 (0 : Int)))
/- crc_More -/
noncomputable def F_crc_More_L1 (p1 : ByteArray) (y3 : (List Int)) (x23 : Int) (x24 : Int) : Option ((Int × Int) ⊕ (Int)) :=
  cond (decide (x24 < (((sB p1)).length : Int))) ((lAt (sB p1) x24).bind fun y33 => (aAt 256 y3 (bits .xor .u8 (wu8 x23) y33)).bind fun y34 => some (.inl ((bits .xor .u32 y34 (Int.fdiv x23 256)), (w64 (x24 + 1))))) ((some (bits .xor .u32 4294967295 x23)).map Sum.inr)
noncomputable def F_crc_More (p0 : Int) (p1 : ByteArray) : Option (Int) :=
  (F_crc_table).bind fun y3 => grd ((y3).length = 256 ∧ ((List.replicate 256 (0 : Int))).length = 256) <| grd (p1.size ≤ 281474976710656) <| Loop (fun s : (Int × Int) => F_crc_More_L1 p1 y3 s.1 s.2) ((bits .xor .u32 4294967295 p0), 0)
/- crc_Sum -/
noncomputable def F_crc_Sum (p0 : ByteArray) : Option (Int) :=
  (F_crc_More 0 p0).bind fun y2 => some y2
/- crc_Bytes -/
noncomputable def F_crc_Bytes (p0 : Int) : Option (ByteArray) :=
  some (strOfNums ([(wu8 p0), (wu8 (Int.fdiv p0 256)), (wu8 (Int.fdiv p0 65536)), (wu8 (Int.fdiv p0 16777216))]))
/- crc_Open -/
noncomputable def F_crc_Open (p0 : ByteArray) : Option (ByteArray × Int) :=
  cond (decide ((w64 ((p0.size : Int) - 4)) < 0)) (some ((⟨#[]⟩ : ByteArray), 2)) (grd ((0 : Int) ≤ 0 ∧ (0 : Int) ≤ (w64 ((p0.size : Int) - 4)) ∧ (w64 ((p0.size : Int) - 4)) ≤ (p0.size : Int)) <| (F_crc_Sum (p0.extract (Int.toNat 0) (Int.toNat (w64 ((p0.size : Int) - 4))))).bind fun y17 => (F_crc_Bytes y17).bind fun y18 => grd ((0 : Int) ≤ (w64 ((p0.size : Int) - 4)) ∧ ((w64 ((p0.size : Int) - 4)) : Int) ≤ (p0.size : Int) ∧ (p0.size : Int) ≤ (p0.size : Int)) <| cond (!(y18.toList == (p0.extract (Int.toNat (w64 ((p0.size : Int) - 4))) (Int.toNat (p0.size : Int))).toList)) (some ((⟨#[]⟩ : ByteArray), 4)) (grd ((0 : Int) ≤ 0 ∧ (0 : Int) ≤ (w64 ((p0.size : Int) - 4)) ∧ (w64 ((p0.size : Int) - 4)) ≤ (p0.size : Int)) <| some ((p0.extract (Int.toNat 0) (Int.toNat (w64 ((p0.size : Int) - 4)))), 0)))
/- frame_Next -/
noncomputable def F_frame_Next_J1 (p0 : ByteArray) (p1 : Int) (x6 : Bool) : Option (T_api_Frame × Int × Int) :=
  cond x6 (some ((⟨0, (⟨#[]⟩ : ByteArray)⟩ : T_api_Frame), 0, 1)) (cond (p1 == (p0.size : Int)) (some ((⟨0, (⟨#[]⟩ : ByteArray)⟩ : T_api_Frame), 0, 2)) ((F_vint_Get p0 (w64 (p1 + 1))).bind fun y11 => cond (y11.2.2 != 0) (some ((⟨0, (⟨#[]⟩ : ByteArray)⟩ : T_api_Frame), 0, y11.2.2)) (cond (decide (1048576 < y11.1)) (some ((⟨0, (⟨#[]⟩ : ByteArray)⟩ : T_api_Frame), 0, 5)) (cond (decide ((w64 ((p0.size : Int) - y11.2.1)) < (w64 ((w64 y11.1) + 4)))) (some ((⟨0, (⟨#[]⟩ : ByteArray)⟩ : T_api_Frame), 0, 2)) (grd ((0 : Int) ≤ p1 ∧ (p1 : Int) ≤ (w64 ((w64 (y11.2.1 + (w64 y11.1))) + 4)) ∧ (w64 ((w64 (y11.2.1 + (w64 y11.1))) + 4)) ≤ (p0.size : Int)) <| (F_crc_Open (p0.extract (Int.toNat p1) (Int.toNat (w64 ((w64 (y11.2.1 + (w64 y11.1))) + 4))))).bind fun y26 => cond (y26.2 != 0) (some ((⟨0, (⟨#[]⟩ : ByteArray)⟩ : T_api_Frame), 0, y26.2)) ((sAt p0 p1).bind fun y30 => grd ((0 : Int) ≤ y11.2.1 ∧ (y11.2.1 : Int) ≤ (w64 (y11.2.1 + (w64 y11.1))) ∧ (w64 (y11.2.1 + (w64 y11.1))) ≤ (p0.size : Int)) <| some ((⟨(w64 y30), (p0.extract (Int.toNat y11.2.1) (Int.toNat (w64 (y11.2.1 + (w64 y11.1)))))⟩ : T_api_Frame), (w64 ((w64 (y11.2.1 + (w64 y11.1))) + 4)), 0)))))))
noncomputable def F_frame_Next (p0 : ByteArray) (p1 : Int) : Option (T_api_Frame × Int × Int) :=
  cond (decide (p1 < 0)) (F_frame_Next_J1 p0 p1 true) (F_frame_Next_J1 p0 p1 (decide ((p0.size : Int) < p1)))
/- slices_Clip_retrace_api_Event_retrace_api_Event -/
noncomputable def F_slices_Clip_retrace_api_Event_retrace_api_Event (p0 : (List T_api_Event)) : Option ((List T_api_Event)) :=
  grd ((0 : Int) ≤ 0 ∧ (0 : Int) ≤ ((p0).length : Int) ∧ ((p0).length : Int) ≤ ((p0).length : Int) ∧ ((p0).length : Int) = ((p0).length : Int)) <| some (lCut p0 0 ((p0).length : Int))
/- slices_Clip_retrace_api_Mark_retrace_api_Mark -/
noncomputable def F_slices_Clip_retrace_api_Mark_retrace_api_Mark (p0 : (List T_api_Mark)) : Option ((List T_api_Mark)) :=
  grd ((0 : Int) ≤ 0 ∧ (0 : Int) ≤ ((p0).length : Int) ∧ ((p0).length : Int) ≤ ((p0).length : Int) ∧ ((p0).length : Int) = ((p0).length : Int)) <| some (lCut p0 0 ((p0).length : Int))
/- trace_copied -/
noncomputable def F_trace_copied (p0 : T_api_Trace) : Option (T_api_Trace) :=
  (F_slices_Clip_retrace_api_Event_retrace_api_Event p0.Events).bind fun y3 => (F_slices_Clip_retrace_api_Mark_retrace_api_Mark p0.Marks).bind fun y4 => some (⟨p0.Sum, p0.Fuel, p0.Every, y3, y4⟩ : T_api_Trace)
/- wire_Open -/
noncomputable def F_wire_Open (p0 : ByteArray) : Option (T_wire_Reader) :=
  some (⟨p0, 0⟩ : T_wire_Reader)
/- wire_Reader_Num_1 -/
noncomputable def F_wire_Reader_Num_1 (p0 : ByteArray) (o0_0 : Int) : Option (Int × Int × Int) :=
  (F_vint_Get p0 0).bind fun y2 => some (y2.2.1, y2.2.2, y2.1)
/- wire_Reader_step -/
noncomputable def F_wire_Reader_step (o0 : T_wire_Reader) (o1_0 : Int) : Option (Bool × T_wire_Reader × Int) :=
  cond (o0.e != 0) (some (false, o0, o1_0)) ((F_wire_Reader_Num_1 o0.s o1_0).bind fun y4 => cond (y4.2.1 != 0) (some (false, (⟨o0.s, y4.2.1⟩ : T_wire_Reader), y4.2.2)) (grd ((0 : Int) ≤ y4.1 ∧ (y4.1 : Int) ≤ (o0.s.size : Int) ∧ (o0.s.size : Int) ≤ (o0.s.size : Int)) <| some (true, (⟨(o0.s.extract (Int.toNat y4.1) (Int.toNat (o0.s.size : Int))), o0.e⟩ : T_wire_Reader), y4.2.2)))
/- wire_Reader_Num -/
noncomputable def F_wire_Reader_Num (o0 : T_wire_Reader) : Option (Int × T_wire_Reader) :=
  (F_wire_Reader_step o0 0).bind fun y2 => some (y2.2.2, y2.2.1)
/- wire_Reader_Upto_1 -/
noncomputable def F_wire_Reader_Upto_1_J1 (y2 : Int × Int × Int) (x11 : Bool) : Option (Int × Int × Int) :=
  cond x11 (some (0, 6, y2.1)) (some (y2.2.1, y2.2.2, y2.1))
noncomputable def F_wire_Reader_Upto_1 (p0 : ByteArray) (o0_0 : Int) (o1_0 : Int) : Option (Int × Int × Int) :=
  (F_vint_Get p0 0).bind fun y2 => cond (y2.2.2 == 0) (cond (decide (o1_0 < 0)) (F_wire_Reader_Upto_1_J1 y2 true) (F_wire_Reader_Upto_1_J1 y2 (decide ((wu64 o1_0) < y2.1)))) (F_wire_Reader_Upto_1_J1 y2 false)
/- wire_Reader_step_v2 -/
noncomputable def F_wire_Reader_step_v2 (o0 : T_wire_Reader) (o1_0 : Int) (o2_0 : Int) : Option (Bool × T_wire_Reader × Int) :=
  cond (o0.e != 0) (some (false, o0, o1_0)) ((F_wire_Reader_Upto_1 o0.s o1_0 o2_0).bind fun y4 => cond (y4.2.1 != 0) (some (false, (⟨o0.s, y4.2.1⟩ : T_wire_Reader), y4.2.2)) (grd ((0 : Int) ≤ y4.1 ∧ (y4.1 : Int) ≤ (o0.s.size : Int) ∧ (o0.s.size : Int) ≤ (o0.s.size : Int)) <| some (true, (⟨(o0.s.extract (Int.toNat y4.1) (Int.toNat (o0.s.size : Int))), o0.e⟩ : T_wire_Reader), y4.2.2)))
/- wire_Reader_Upto -/
noncomputable def F_wire_Reader_Upto (p1 : Int) (o0 : T_wire_Reader) : Option (Int × T_wire_Reader) :=
  (F_wire_Reader_step_v2 o0 0 p1).bind fun y2 => cond (!y2.1) (some (0, y2.2.1)) (some ((w64 y2.2.2), y2.2.1))
/- wire_Reader_Err -/
noncomputable def F_wire_Reader_Err (o0 : T_wire_Reader) : Option (Int) :=
  some o0.e
/- wire_Reader_Left -/
noncomputable def F_wire_Reader_Left (o0 : T_wire_Reader) : Option (Int) :=
  some (o0.s.size : Int)
/- wire_Reader_End -/
noncomputable def F_wire_Reader_End_J1 (y10 : Int) (x13 : Bool) : Option (Int) :=
  cond x13 (some y10) (some 3)
noncomputable def F_wire_Reader_End (o0 : T_wire_Reader) : Option (Int) :=
  (F_wire_Reader_Err o0).bind fun y10 => cond (y10 != 0) (F_wire_Reader_End_J1 y10 true) ((F_wire_Reader_Left o0).bind fun y16 => F_wire_Reader_End_J1 y10 (y16 == 0))
/- slices_Equal_retrace_api_Event_retrace_api_Event -/
noncomputable def F_slices_Equal_retrace_api_Event_retrace_api_Event_L1 (p0 : (List T_api_Event)) (p1 : (List T_api_Event)) (x22 : Int) : Option ((Int) ⊕ (Bool)) :=
  cond (decide (x22 < ((p0).length : Int))) ((lAt p0 x22).bind fun y34 => (lAt p1 x22).bind fun y35 => cond (!((y34.Kind == y35.Kind) && ((y34.N == y35.N) && true))) ((some false).map Sum.inr) (some (.inl (w64 (x22 + 1))))) ((some true).map Sum.inr)
noncomputable def F_slices_Equal_retrace_api_Event_retrace_api_Event (p0 : (List T_api_Event)) (p1 : (List T_api_Event)) : Option (Bool) :=
  cond (((p0).length : Int) != ((p1).length : Int)) (some false) (Loop (fun s : (Int) => F_slices_Equal_retrace_api_Event_retrace_api_Event_L1 p0 p1 s) 0)
/- slices_Equal_int_int -/
noncomputable def F_slices_Equal_int_int_L1 (p0 : (List Int)) (p1 : (List Int)) (x22 : Int) : Option ((Int) ⊕ (Bool)) :=
  cond (decide (x22 < ((p0).length : Int))) ((lAt p0 x22).bind fun y34 => (lAt p1 x22).bind fun y35 => cond (y34 != y35) ((some false).map Sum.inr) (some (.inl (w64 (x22 + 1))))) ((some true).map Sum.inr)
noncomputable def F_slices_Equal_int_int (p0 : (List Int)) (p1 : (List Int)) : Option (Bool) :=
  cond (((p0).length : Int) != ((p1).length : Int)) (some false) (Loop (fun s : (Int) => F_slices_Equal_int_int_L1 p0 p1 s) 0)
/- slices_Equal_retrace_api_Alt_retrace_api_Alt -/
noncomputable def F_slices_Equal_retrace_api_Alt_retrace_api_Alt_L1 (p0 : (List T_api_Alt)) (p1 : (List T_api_Alt)) (x22 : Int) : Option ((Int) ⊕ (Bool)) :=
  cond (decide (x22 < ((p0).length : Int))) ((lAt p0 x22).bind fun y34 => (lAt p1 x22).bind fun y35 => cond (!((y34.Kind == y35.Kind) && ((y34.Chan == y35.Chan) && ((y34.Val == y35.Val) && ((y34.Slot == y35.Slot) && ((y34.Goto == y35.Goto) && true)))))) ((some false).map Sum.inr) (some (.inl (w64 (x22 + 1))))) ((some true).map Sum.inr)
noncomputable def F_slices_Equal_retrace_api_Alt_retrace_api_Alt (p0 : (List T_api_Alt)) (p1 : (List T_api_Alt)) : Option (Bool) :=
  cond (((p0).length : Int) != ((p1).length : Int)) (some false) (Loop (fun s : (Int) => F_slices_Equal_retrace_api_Alt_retrace_api_Alt_L1 p0 p1 s) 0)
/- proc_Same -/
noncomputable def F_proc_Same_J1 (x13 : Bool) : Option (Bool) :=
  some x13
noncomputable def F_proc_Same (p0 : T_api_Proc) (p1 : T_api_Proc) : Option (Bool) :=
  cond (p0.Def == p1.Def) (cond (p0.At == p1.At) ((F_slices_Equal_int_int p0.Vars p1.Vars).bind fun y16 => cond y16 (cond (p0.Fuel == p1.Fuel) (cond (p0.Mode == p1.Mode) (cond (p0.Chan == p1.Chan) (cond (p0.Val == p1.Val) (cond (p0.Slot == p1.Slot) (cond (p0.Until == p1.Until) (cond (p0.Since == p1.Since) ((F_slices_Equal_retrace_api_Alt_retrace_api_Alt p0.Alts p1.Alts).bind fun y25 => F_proc_Same_J1 y25) (F_proc_Same_J1 false)) (F_proc_Same_J1 false)) (F_proc_Same_J1 false)) (F_proc_Same_J1 false)) (F_proc_Same_J1 false)) (F_proc_Same_J1 false)) (F_proc_Same_J1 false)) (F_proc_Same_J1 false)) (F_proc_Same_J1 false)) (F_proc_Same_J1 false)
/- slices_EqualFunc_retrace_api_Proc_retrace_api_Proc_retrace_api_Proc_retrace_api_Proc -/
noncomputable def F_slices_EqualFunc_retrace_api_Proc_retrace_api_Proc_retrace_api_Proc_retrace_api_Proc_L1 (p0 : (List T_api_Proc)) (p1 : (List T_api_Proc)) (x26 : Int) : Option ((Int) ⊕ (Bool)) :=
  cond (decide (x26 < ((p0).length : Int))) ((lAt p0 x26).bind fun y39 => (lAt p1 x26).bind fun y41 => (F_proc_Same y39 y41).bind fun y43 => cond (!y43) ((some false).map Sum.inr) (some (.inl (w64 (x26 + 1))))) ((some true).map Sum.inr)
noncomputable def F_slices_EqualFunc_retrace_api_Proc_retrace_api_Proc_retrace_api_Proc_retrace_api_Proc (p0 : (List T_api_Proc)) (p1 : (List T_api_Proc)) : Option (Bool) :=
  cond (((p0).length : Int) != ((p1).length : Int)) (some false) (Loop (fun s : (Int) => F_slices_EqualFunc_retrace_api_Proc_retrace_api_Proc_retrace_api_Proc_retrace_api_Proc_L1 p0 p1 s) 0)
/- machine_Same -/
noncomputable def F_machine_Same_J1 (x9 : Bool) : Option (Bool) :=
  some x9
noncomputable def F_machine_Same (p0 : T_api_State) (p1 : T_api_State) : Option (Bool) :=
  cond (p0.Now == p1.Now) (cond (p0.Since == p1.Since) (cond (p0.Halt == p1.Halt) (cond (p0.Fault == p1.Fault) (cond (p0.Who == p1.Who) ((F_slices_Equal_int_int p0.Out p1.Out).bind fun y15 => cond y15 ((F_slices_EqualFunc_retrace_api_Proc_retrace_api_Proc_retrace_api_Proc_retrace_api_Proc p0.Procs p1.Procs).bind fun y17 => F_machine_Same_J1 y17) (F_machine_Same_J1 false)) (F_machine_Same_J1 false)) (F_machine_Same_J1 false)) (F_machine_Same_J1 false)) (F_machine_Same_J1 false)) (F_machine_Same_J1 false)
/- trace_Same_1 -/
noncomputable def F_trace_Same_1_J1 (x4 : Bool) : Option (Bool) :=
  some x4
noncomputable def F_trace_Same_1 (p0 : T_api_Mark) (p1 : T_api_Mark) : Option (Bool) :=
  cond (p0.Step == p1.Step) (cond (p0.Events == p1.Events) ((F_machine_Same p0.State p1.State).bind fun y7 => F_trace_Same_1_J1 y7) (F_trace_Same_1_J1 false)) (F_trace_Same_1_J1 false)
/- slices_EqualFunc_retrace_api_Mark_retrace_api_Mark_retrace_api_Mark_retrace_api_Mark -/
noncomputable def F_slices_EqualFunc_retrace_api_Mark_retrace_api_Mark_retrace_api_Mark_retrace_api_Mark_L1 (p0 : (List T_api_Mark)) (p1 : (List T_api_Mark)) (x26 : Int) : Option ((Int) ⊕ (Bool)) :=
  cond (decide (x26 < ((p0).length : Int))) ((lAt p0 x26).bind fun y39 => (lAt p1 x26).bind fun y41 => (F_trace_Same_1 y39 y41).bind fun y43 => cond (!y43) ((some false).map Sum.inr) (some (.inl (w64 (x26 + 1))))) ((some true).map Sum.inr)
noncomputable def F_slices_EqualFunc_retrace_api_Mark_retrace_api_Mark_retrace_api_Mark_retrace_api_Mark (p0 : (List T_api_Mark)) (p1 : (List T_api_Mark)) : Option (Bool) :=
  cond (((p0).length : Int) != ((p1).length : Int)) (some false) (Loop (fun s : (Int) => F_slices_EqualFunc_retrace_api_Mark_retrace_api_Mark_retrace_api_Mark_retrace_api_Mark_L1 p0 p1 s) 0)
/- trace_Same -/
noncomputable def F_trace_Same_J1 (x7 : Bool) : Option (Bool) :=
  some x7
noncomputable def F_trace_Same (p0 : T_api_Trace) (p1 : T_api_Trace) : Option (Bool) :=
  cond (p0.Sum == p1.Sum) (cond (p0.Fuel == p1.Fuel) (cond (p0.Every == p1.Every) ((F_slices_Equal_retrace_api_Event_retrace_api_Event p0.Events p1.Events).bind fun y11 => cond y11 ((F_slices_EqualFunc_retrace_api_Mark_retrace_api_Mark_retrace_api_Mark_retrace_api_Mark p0.Marks p1.Marks).bind fun y13 => F_trace_Same_J1 y13) (F_trace_Same_J1 false)) (F_trace_Same_J1 false)) (F_trace_Same_J1 false)) (F_trace_Same_J1 false)
/- trace_zero -/
noncomputable def F_trace_zero (p0 : T_api_Trace) : Option (Bool) :=
  (F_trace_Same p0 (⟨0, 0, 0, ([] : (List T_api_Event)), ([] : (List T_api_Mark))⟩ : T_api_Trace)).bind fun y2 => some y2
/- trace_head -/
noncomputable def F_trace_head_J1 (p0_0 : Int) (p0_1 : Int) (p0_2 : Int) (p0_3 : (List T_api_Event)) (p0_4 : (List T_api_Mark)) (y4 : Int × T_wire_Reader) (y7 : Int × T_wire_Reader) (y8 : Int × T_wire_Reader) (x23 : Bool) : Option (T_api_Trace × Int) :=
  cond x23 (some ((⟨p0_0, p0_1, p0_2, p0_3, p0_4⟩ : T_api_Trace), 3)) (some ((⟨(wu32 y4.1), y7.1, y8.1, ([] : List T_api_Event), ([] : List T_api_Mark)⟩ : T_api_Trace), 0))
noncomputable def F_trace_head (p0_0 : Int) (p0_1 : Int) (p0_2 : Int) (p0_3 : (List T_api_Event)) (p0_4 : (List T_api_Mark)) (p1 : ByteArray) : Option (T_api_Trace × Int) :=
  (F_wire_Open p1).bind fun y2 => (F_wire_Reader_Num y2).bind fun y4 => (F_wire_Reader_Upto 1048576 y4.2).bind fun y7 => (F_wire_Reader_Upto 1048576 y7.2).bind fun y8 => (F_wire_Reader_End y8.2).bind fun y13 => cond (y13 != 0) (some ((⟨p0_0, p0_1, p0_2, p0_3, p0_4⟩ : T_api_Trace), y13)) ((F_trace_zero (⟨p0_0, p0_1, p0_2, p0_3, p0_4⟩ : T_api_Trace)).bind fun y25 => cond (!y25) (F_trace_head_J1 p0_0 p0_1 p0_2 p0_3 p0_4 y4 y7 y8 true) (F_trace_head_J1 p0_0 p0_1 p0_2 p0_3 p0_4 y4 y7 y8 (decide (4294967295 < y4.1))))
/- event_Check -/
noncomputable def F_event_Check_J1 (x36 : Int) (x59 : Bool) : Option ((Int) ⊕ (Int × Int)) :=
  cond x59 ((some (x36, 3)).map Sum.inr) (some (.inl (w64 (x36 + 1))))
noncomputable def F_event_Check_L2 (p0 : (List T_api_Event)) (x36 : Int) : Option ((Int) ⊕ (Int × Int)) :=
  cond (decide (x36 < ((p0).length : Int))) ((lAt p0 x36).bind fun y54 => cond (decide (y54.Kind < 1)) (F_event_Check_J1 x36 true) (cond (decide (3 < y54.Kind)) (F_event_Check_J1 x36 true) (cond (decide (y54.N < 0)) (F_event_Check_J1 x36 true) (cond (x36 == 0) (F_event_Check_J1 x36 (y54.Kind != 1)) (F_event_Check_J1 x36 false))))) ((some (0, 0)).map Sum.inr)
noncomputable def F_event_Check (p0 : (List T_api_Event)) : Option (Int × Int) :=
  cond (decide (65536 < ((p0).length : Int))) (some (65536, 13)) (Loop (fun s : (Int) => F_event_Check_L2 p0 s) 0)
/- event_begins -/
noncomputable def F_event_begins (p0 : (List T_api_Event)) : Option ((List T_api_Event)) :=
  some p0
/- R_event_Begin_0 -/
noncomputable def F_R_event_Begin_0 (p0 : Int) (o1_0 : Int) (o2_0 : Int) : Option ((Int) ⊕ (Int)) :=
  cond (o1_0 == 0) (some (.inl p0)) (some (.inr (w64 (o1_0 - 1))))
/- event_begins_1 -/
noncomputable def F_event_begins_1_J1 (x2 : Int) (x25 : Int) : Option ((Int × Int) ⊕ ((Int × Int) ⊕ (Int))) :=
  (some (.inl (x2, x25))).map Sum.inr
noncomputable def F_event_begins_1_J2 (x1 : Int) (x28 : Int) : Option ((Int × Int) ⊕ ((Int × Int) ⊕ (Int))) :=
  some (.inl ((w64 (x1 + 1)), x28))
noncomputable def F_event_begins_1_L3 (o2_0 : Int) (o3_0 : (List T_api_Event)) (x1 : Int) (x2 : Int) : Option ((Int × Int) ⊕ ((Int × Int) ⊕ (Int))) :=
  cond (decide (x1 < ((o3_0).length : Int))) ((lAt o3_0 x1).bind fun y20 => cond (y20.Kind == 1) ((F_R_event_Begin_0 x1 x2 o2_0).bind fun y30 => (Sum.elim (fun y31 => F_event_begins_1_J1 x2 y31) (fun y32 => F_event_begins_1_J2 x1 y32)) y30) (F_event_begins_1_J2 x1 x2)) ((some (.inr x2)).map Sum.inr)
noncomputable def F_event_begins_1 (o1_0 : Int) (o2_0 : Int) (o3_0 : (List T_api_Event)) : Option ((Int × Int) ⊕ (Int)) :=
  Loop (fun s : (Int × Int) => F_event_begins_1_L3 o2_0 o3_0 s.1 s.2) (0, o1_0)
/- event_Begin -/
noncomputable def F_event_Begin (p0 : (List T_api_Event)) (p1 : Int) : Option (Int) :=
  cond (decide (p1 < 0)) (some (-1)) ((F_event_begins p0).bind fun y9 => (F_event_begins_1 p1 0 y9).bind fun y10 => (Sum.elim (fun y11 => some y11.2) (fun y12 => cond (y12 == 0) (some ((p0).length : Int)) (some (-1)))) y10)
/- trace_Check -/
noncomputable def F_trace_Check_J2 (x50 : Int) (x70 : Bool) : Option ((Int) ⊕ (Int)) :=
  cond x70 ((some 1).map Sum.inr) (some (.inl (w64 (x50 + 1))))
noncomputable def F_trace_Check_L3 (p0 : T_api_Trace) (x50 : Int) : Option ((Int) ⊕ (Int)) :=
  cond (decide (x50 < ((p0.Marks).length : Int))) ((lAt p0.Marks x50).bind fun y66 => cond (y66.Step != (w64 (x50 * p0.Every))) (F_trace_Check_J2 x50 true) ((F_event_Begin p0.Events y66.Step).bind fun y75 => cond (y75 != y66.Events) (F_trace_Check_J2 x50 true) (F_trace_Check_J2 x50 (decide (y66.Events < 0))))) ((some 0).map Sum.inr)
noncomputable def F_trace_Check_J1 (p0 : T_api_Trace) (x19 : Bool) : Option (Int) :=
  cond x19 (some 1) (Loop (fun s : (Int) => F_trace_Check_L3 p0 s) 0)
noncomputable def F_trace_Check (p0 : T_api_Trace) : Option (Int) :=
  (F_event_Check p0.Events).bind fun y14 => cond (y14.2 != 0) (F_trace_Check_J1 p0 true) (cond (decide (p0.Fuel < 0)) (F_trace_Check_J1 p0 true) (cond (decide (1048576 < p0.Fuel)) (F_trace_Check_J1 p0 true) (cond (decide (p0.Every < 1)) (F_trace_Check_J1 p0 true) (F_trace_Check_J1 p0 (decide (1048576 < p0.Every))))))
/- vint_Zag -/
noncomputable def F_vint_Zag (p0 : Int) : Option (Int) :=
  some (bits .xor .i64 (w64 (Int.fdiv p0 2)) (w64 (0 - (w64 (bits .and .u64 p0 1)))))
/- vint_GetInt -/
noncomputable def F_vint_GetInt (p0 : ByteArray) (p1 : Int) : Option (Int × Int × Int) :=
  (F_vint_Get p0 p1).bind fun y2 => (F_vint_Zag y2.1).bind fun y4 => some (y4, y2.2.1, y2.2.2)
/- wire_Reader_Int_1 -/
noncomputable def F_wire_Reader_Int_1 (p0 : ByteArray) (o0_0 : Int) : Option (Int × Int × Int) :=
  (F_vint_GetInt p0 0).bind fun y2 => some (y2.2.1, y2.2.2, y2.1)
/- wire_Reader_step_v3 -/
noncomputable def F_wire_Reader_step_v3 (o0 : T_wire_Reader) (o1_0 : Int) : Option (Bool × T_wire_Reader × Int) :=
  cond (o0.e != 0) (some (false, o0, o1_0)) ((F_wire_Reader_Int_1 o0.s o1_0).bind fun y4 => cond (y4.2.1 != 0) (some (false, (⟨o0.s, y4.2.1⟩ : T_wire_Reader), y4.2.2)) (grd ((0 : Int) ≤ y4.1 ∧ (y4.1 : Int) ≤ (o0.s.size : Int) ∧ (o0.s.size : Int) ≤ (o0.s.size : Int)) <| some (true, (⟨(o0.s.extract (Int.toNat y4.1) (Int.toNat (o0.s.size : Int))), o0.e⟩ : T_wire_Reader), y4.2.2)))
/- wire_Reader_Int -/
noncomputable def F_wire_Reader_Int (o0 : T_wire_Reader) : Option (Int × T_wire_Reader) :=
  (F_wire_Reader_step_v3 o0 0).bind fun y2 => some (y2.2.2, y2.2.1)
/- event_Get -/
noncomputable def F_event_Get_J1 (x29 : ByteArray) (x30 : Int) (x31 : (List T_api_Event)) (x42 : Bool) : Option ((ByteArray × Int × (List T_api_Event)) ⊕ ((List T_api_Event) × Int)) :=
  cond x42 ((F_wire_Reader_Int (⟨x29, x30⟩ : T_wire_Reader)).bind fun y45 => (F_wire_Reader_Int y45.2).bind fun y47 => grd (((x31).length + ([(⟨y45.1, y47.1⟩ : T_api_Event)]).length) * 16 ≤ 140737488355328) <| some (.inl (y47.2.s, y47.2.e, (x31 ++ [(⟨y45.1, y47.1⟩ : T_api_Event)])))) (((F_wire_Reader_End (⟨x29, x30⟩ : T_wire_Reader)).bind fun y55 => cond (y55 != 0) (some (([] : List T_api_Event), y55)) ((F_event_Check x31).bind fun y61 => cond (y61.2 != 0) (some (([] : List T_api_Event), y61.2)) (some (x31, 0)))).map Sum.inr)
noncomputable def F_event_Get_L2 (y4 : Int × T_wire_Reader) (x29 : ByteArray) (x30 : Int) (x31 : (List T_api_Event)) : Option ((ByteArray × Int × (List T_api_Event)) ⊕ ((List T_api_Event) × Int)) :=
  cond (decide (((x31).length : Int) < y4.1)) ((F_wire_Reader_Err (⟨x29, x30⟩ : T_wire_Reader)).bind fun y64 => F_event_Get_J1 x29 x30 x31 (y64 == 0)) (F_event_Get_J1 x29 x30 x31 false)
noncomputable def F_event_Get (p0 : ByteArray) : Option ((List T_api_Event) × Int) :=
  (F_wire_Open p0).bind fun y2 => (F_wire_Reader_Upto 65536 y2).bind fun y4 => Loop (fun s : (ByteArray × Int × (List T_api_Event)) => F_event_Get_L2 y4 s.1 s.2.1 s.2.2) (y4.2.s, y4.2.e, ([] : (List T_api_Event)))
/- trace_events -/
noncomputable def F_trace_events (p0_0 : Int) (p0_1 : Int) (p0_2 : Int) (p0_3 : (List T_api_Event)) (p0_4 : (List T_api_Mark)) (p1 : ByteArray) : Option (T_api_Trace × Int) :=
  (F_event_Get p1).bind fun y2 => cond (y2.2 != 0) (some ((⟨p0_0, p0_1, p0_2, p0_3, p0_4⟩ : T_api_Trace), y2.2)) (grd (((p0_3).length + (y2.1).length) * 16 ≤ 140737488355328) <| some ((⟨p0_0, p0_1, p0_2, (p0_3 ++ y2.1), p0_4⟩ : T_api_Trace), 0))
/- dump_reader_into -/
noncomputable def F_dump_reader_into (o0 : T_wire_Reader) (o2 : T_api_State) : Option (T_wire_Reader × T_api_State) :=
  (F_wire_Reader_Int o0).bind fun y2 => (F_wire_Reader_Int y2.2).bind fun y4 => (F_wire_Reader_Int y4.2).bind fun y6 => (F_wire_Reader_Int y6.2).bind fun y8 => (F_wire_Reader_Int y8.2).bind fun y10 => some (y10.2, (⟨y2.1, y4.1, y6.1, y8.1, y10.1, o2.Procs, o2.Out⟩ : T_api_State))
/- dump_reader_into_v2 -/
noncomputable def F_dump_reader_into_v2 (o0 : T_wire_Reader) (o2 : T_api_Proc) : Option (T_wire_Reader × T_api_Proc) :=
  (F_wire_Reader_Int o0).bind fun y2 => (F_wire_Reader_Int y2.2).bind fun y4 => some (y4.2, (⟨y2.1, y4.1, o2.Vars, o2.Fuel, o2.Mode, o2.Chan, o2.Val, o2.Slot, o2.Until, o2.Since, o2.Alts⟩ : T_api_Proc))
/- wire_Reader_Ints -/
noncomputable def F_wire_Reader_Ints_J1 (x24 : ByteArray) (x25 : Int) (x26 : (List Int)) (x37 : Bool) : Option ((ByteArray × Int × (List Int)) ⊕ ((List Int) × T_wire_Reader)) :=
  cond x37 ((F_wire_Reader_Int (⟨x24, x25⟩ : T_wire_Reader)).bind fun y39 => grd (((x26).length + ([y39.1]).length) * 8 ≤ 140737488355328) <| some (.inl (y39.2.s, y39.2.e, (x26 ++ [y39.1])))) (((F_wire_Reader_Err (⟨x24, x25⟩ : T_wire_Reader)).bind fun y47 => cond (y47 != 0) (some (([] : List Int), (⟨x24, x25⟩ : T_wire_Reader))) (some (x26, (⟨x24, x25⟩ : T_wire_Reader)))).map Sum.inr)
noncomputable def F_wire_Reader_Ints_L2 (y2 : Int × T_wire_Reader) (x24 : ByteArray) (x25 : Int) (x26 : (List Int)) : Option ((ByteArray × Int × (List Int)) ⊕ ((List Int) × T_wire_Reader)) :=
  cond (decide (((x26).length : Int) < y2.1)) ((F_wire_Reader_Err (⟨x24, x25⟩ : T_wire_Reader)).bind fun y50 => F_wire_Reader_Ints_J1 x24 x25 x26 (y50 == 0)) (F_wire_Reader_Ints_J1 x24 x25 x26 false)
noncomputable def F_wire_Reader_Ints (p1 : Int) (o0 : T_wire_Reader) : Option ((List Int) × T_wire_Reader) :=
  (F_wire_Reader_Upto p1 o0).bind fun y2 => Loop (fun s : (ByteArray × Int × (List Int)) => F_wire_Reader_Ints_L2 y2 s.1 s.2.1 s.2.2) (y2.2.s, y2.2.e, ([] : (List Int)))
/- dump_reader_into_v3 -/
noncomputable def F_dump_reader_into_v3 (o0 : T_wire_Reader) (o2 : T_api_Proc) : Option (T_wire_Reader × T_api_Proc) :=
  (F_wire_Reader_Int o0).bind fun y2 => (F_wire_Reader_Int y2.2).bind fun y4 => (F_wire_Reader_Int y4.2).bind fun y6 => (F_wire_Reader_Int y6.2).bind fun y8 => (F_wire_Reader_Int y8.2).bind fun y10 => (F_wire_Reader_Int y10.2).bind fun y12 => (F_wire_Reader_Int y12.2).bind fun y14 => some (y14.2, (⟨o2.Def, o2.At, o2.Vars, y2.1, y4.1, y6.1, y8.1, y10.1, y12.1, y14.1, o2.Alts⟩ : T_api_Proc))
/- dump_reader_into_v4 -/
noncomputable def F_dump_reader_into_v4 (o0 : T_wire_Reader) (o2 : T_api_Alt) : Option (T_wire_Reader × T_api_Alt) :=
  (F_wire_Reader_Int o0).bind fun y2 => (F_wire_Reader_Int y2.2).bind fun y4 => (F_wire_Reader_Int y4.2).bind fun y6 => (F_wire_Reader_Int y6.2).bind fun y8 => (F_wire_Reader_Int y8.2).bind fun y10 => some (y10.2, (⟨y2.1, y4.1, y6.1, y8.1, y10.1⟩ : T_api_Alt))
/- dump_reader_proc_1 -/
noncomputable def F_dump_reader_proc_1 (o1 : T_wire_Reader) (o2 : T_api_Proc) : Option (T_wire_Reader × T_api_Proc) :=
  (F_dump_reader_into_v4 o1 (⟨0, 0, 0, 0, 0⟩ : T_api_Alt)).bind fun y2 => grd (((o2.Alts).length + ([y2.2]).length) * 40 ≤ 140737488355328) <| some (y2.1, (⟨o2.Def, o2.At, o2.Vars, o2.Fuel, o2.Mode, o2.Chan, o2.Val, o2.Slot, o2.Until, o2.Since, (o2.Alts ++ [y2.2])⟩ : T_api_Proc))
/- dump_reader_each_v2 -/
noncomputable def F_dump_reader_each_v2_J1 (x3 : Int) (x4 : ByteArray) (x5 : Int) (x6 : Int) (x7 : Int) (x8 : Int) (x9 : Int) (x10 : Int) (x11 : Int) (x12 : Int) (x13 : Int) (x14 : Int) (x15 : (List Int)) (x16 : (List T_api_Alt)) (x27 : Bool) : Option ((Int × ByteArray × Int × Int × Int × Int × Int × Int × Int × Int × Int × Int × (List Int) × (List T_api_Alt)) ⊕ (T_wire_Reader × T_api_Proc)) :=
  cond x27 ((F_dump_reader_proc_1 (⟨x4, x5⟩ : T_wire_Reader) (⟨x6, x7, x15, x8, x9, x10, x11, x12, x13, x14, x16⟩ : T_api_Proc)).bind fun y30 => some (.inl ((w64 (x3 + 1)), y30.1.s, y30.1.e, y30.2.Def, y30.2.At, y30.2.Fuel, y30.2.Mode, y30.2.Chan, y30.2.Val, y30.2.Slot, y30.2.Until, y30.2.Since, y30.2.Vars, y30.2.Alts))) ((some ((⟨x4, x5⟩ : T_wire_Reader), (⟨x6, x7, x15, x8, x9, x10, x11, x12, x13, x14, x16⟩ : T_api_Proc))).map Sum.inr)
noncomputable def F_dump_reader_each_v2_L2 (y2 : Int × T_wire_Reader) (x3 : Int) (x4 : ByteArray) (x5 : Int) (x6 : Int) (x7 : Int) (x8 : Int) (x9 : Int) (x10 : Int) (x11 : Int) (x12 : Int) (x13 : Int) (x14 : Int) (x15 : (List Int)) (x16 : (List T_api_Alt)) : Option ((Int × ByteArray × Int × Int × Int × Int × Int × Int × Int × Int × Int × Int × (List Int) × (List T_api_Alt)) ⊕ (T_wire_Reader × T_api_Proc)) :=
  cond (decide (x3 < y2.1)) ((F_wire_Reader_Err (⟨x4, x5⟩ : T_wire_Reader)).bind fun y34 => F_dump_reader_each_v2_J1 x3 x4 x5 x6 x7 x8 x9 x10 x11 x12 x13 x14 x15 x16 (y34 == 0)) (F_dump_reader_each_v2_J1 x3 x4 x5 x6 x7 x8 x9 x10 x11 x12 x13 x14 x15 x16 false)
noncomputable def F_dump_reader_each_v2 (o0 : T_wire_Reader) (o2 : T_api_Proc) : Option (T_wire_Reader × T_api_Proc) :=
  (F_wire_Reader_Upto 4096 o0).bind fun y2 => Loop (fun s : (Int × ByteArray × Int × Int × Int × Int × Int × Int × Int × Int × Int × Int × (List Int) × (List T_api_Alt)) => F_dump_reader_each_v2_L2 y2 s.1 s.2.1 s.2.2.1 s.2.2.2.1 s.2.2.2.2.1 s.2.2.2.2.2.1 s.2.2.2.2.2.2.1 s.2.2.2.2.2.2.2.1 s.2.2.2.2.2.2.2.2.1 s.2.2.2.2.2.2.2.2.2.1 s.2.2.2.2.2.2.2.2.2.2.1 s.2.2.2.2.2.2.2.2.2.2.2.1 s.2.2.2.2.2.2.2.2.2.2.2.2.1 s.2.2.2.2.2.2.2.2.2.2.2.2.2) (0, y2.2.s, y2.2.e, o2.Def, o2.At, o2.Fuel, o2.Mode, o2.Chan, o2.Val, o2.Slot, o2.Until, o2.Since, o2.Vars, o2.Alts)
/- dump_reader_proc -/
noncomputable def F_dump_reader_proc (o0 : T_wire_Reader) : Option (T_api_Proc × T_wire_Reader) :=
  (F_dump_reader_into_v2 o0 (⟨0, 0, ([] : List Int), 0, 0, 0, 0, 0, 0, 0, ([] : List T_api_Alt)⟩ : T_api_Proc)).bind fun y2 => (F_wire_Reader_Ints 4096 y2.1).bind fun y4 => (F_dump_reader_into_v3 y4.2 (⟨y2.2.Def, y2.2.At, y4.1, y2.2.Fuel, y2.2.Mode, y2.2.Chan, y2.2.Val, y2.2.Slot, y2.2.Until, y2.2.Since, y2.2.Alts⟩ : T_api_Proc)).bind fun y6 => (F_dump_reader_each_v2 y6.1 y6.2).bind fun y8 => some (y8.2, y8.1)
/- dump_Read_1 -/
noncomputable def F_dump_Read_1 (o0 : T_api_State) (o4 : T_wire_Reader) : Option (T_api_State × T_wire_Reader) :=
  (F_dump_reader_proc o4).bind fun y1 => grd (((o0.Procs).length + ([y1.1]).length) * 120 ≤ 140737488355328) <| some ((⟨o0.Now, o0.Since, o0.Halt, o0.Fault, o0.Who, (o0.Procs ++ [y1.1]), o0.Out⟩ : T_api_State), y1.2)
/- dump_reader_each -/
noncomputable def F_dump_reader_each_J1 (x3 : Int) (x4 : ByteArray) (x5 : Int) (x6 : Int) (x7 : Int) (x8 : Int) (x9 : Int) (x10 : Int) (x11 : (List T_api_Proc)) (x12 : (List Int)) (x23 : Bool) : Option ((Int × ByteArray × Int × Int × Int × Int × Int × Int × (List T_api_Proc) × (List Int)) ⊕ (T_wire_Reader × T_api_State)) :=
  cond x23 ((F_dump_Read_1 (⟨x6, x7, x8, x9, x10, x11, x12⟩ : T_api_State) (⟨x4, x5⟩ : T_wire_Reader)).bind fun y26 => some (.inl ((w64 (x3 + 1)), y26.2.s, y26.2.e, y26.1.Now, y26.1.Since, y26.1.Halt, y26.1.Fault, y26.1.Who, y26.1.Procs, y26.1.Out))) ((some ((⟨x4, x5⟩ : T_wire_Reader), (⟨x6, x7, x8, x9, x10, x11, x12⟩ : T_api_State))).map Sum.inr)
noncomputable def F_dump_reader_each_L2 (y2 : Int × T_wire_Reader) (x3 : Int) (x4 : ByteArray) (x5 : Int) (x6 : Int) (x7 : Int) (x8 : Int) (x9 : Int) (x10 : Int) (x11 : (List T_api_Proc)) (x12 : (List Int)) : Option ((Int × ByteArray × Int × Int × Int × Int × Int × Int × (List T_api_Proc) × (List Int)) ⊕ (T_wire_Reader × T_api_State)) :=
  cond (decide (x3 < y2.1)) ((F_wire_Reader_Err (⟨x4, x5⟩ : T_wire_Reader)).bind fun y30 => F_dump_reader_each_J1 x3 x4 x5 x6 x7 x8 x9 x10 x11 x12 (y30 == 0)) (F_dump_reader_each_J1 x3 x4 x5 x6 x7 x8 x9 x10 x11 x12 false)
noncomputable def F_dump_reader_each (o0 : T_wire_Reader) (o1 : T_api_State) : Option (T_wire_Reader × T_api_State) :=
  (F_wire_Reader_Upto 4096 o0).bind fun y2 => Loop (fun s : (Int × ByteArray × Int × Int × Int × Int × Int × Int × (List T_api_Proc) × (List Int)) => F_dump_reader_each_L2 y2 s.1 s.2.1 s.2.2.1 s.2.2.2.1 s.2.2.2.2.1 s.2.2.2.2.2.1 s.2.2.2.2.2.2.1 s.2.2.2.2.2.2.2.1 s.2.2.2.2.2.2.2.2.1 s.2.2.2.2.2.2.2.2.2) (0, y2.2.s, y2.2.e, o1.Now, o1.Since, o1.Halt, o1.Fault, o1.Who, o1.Procs, o1.Out)
/- dump_Read -/
noncomputable def F_dump_Read (o0 : T_wire_Reader) : Option (T_api_State × T_wire_Reader) :=
  (F_dump_reader_into o0 (⟨0, 0, 0, 0, 0, ([] : List T_api_Proc), ([] : List Int)⟩ : T_api_State)).bind fun y2 => (F_dump_reader_each y2.1 y2.2).bind fun y4 => (F_wire_Reader_Ints 1048576 y4.1).bind fun y6 => (F_wire_Reader_Err y6.2).bind fun y11 => cond (y11 != 0) (some ((⟨0, 0, 0, 0, 0, ([] : List T_api_Proc), ([] : List Int)⟩ : T_api_State), y6.2)) (some ((⟨y4.2.Now, y4.2.Since, y4.2.Halt, y4.2.Fault, y4.2.Who, y4.2.Procs, y6.1⟩ : T_api_State), y6.2))
/- trace_mark -/
noncomputable def F_trace_mark (p0_0 : Int) (p0_1 : Int) (p0_2 : Int) (p0_3 : (List T_api_Event)) (p0_4 : (List T_api_Mark)) (p1 : ByteArray) : Option (T_api_Trace × Int) :=
  (F_wire_Open p1).bind fun y2 => (F_wire_Reader_Upto 1048576 y2).bind fun y5 => (F_wire_Reader_Upto 1048576 y5.2).bind fun y6 => (F_dump_Read y6.2).bind fun y8 => (F_wire_Reader_End y8.2).bind fun y13 => cond (y13 != 0) (some ((⟨p0_0, p0_1, p0_2, p0_3, p0_4⟩ : T_api_Trace), y13)) (grd (((p0_4).length + ([(⟨y5.1, y6.1, y8.1⟩ : T_api_Mark)]).length) * 104 ≤ 140737488355328) <| some ((⟨p0_0, p0_1, p0_2, p0_3, (p0_4 ++ [(⟨y5.1, y6.1, y8.1⟩ : T_api_Mark)])⟩ : T_api_Trace), 0))
/- trace_end -/
noncomputable def F_trace_end_J1 (p0_0 : Int) (p0_1 : Int) (p0_2 : Int) (p0_3 : (List T_api_Event)) (p0_4 : (List T_api_Mark)) (x18 : Bool) : Option (T_api_Trace × Int) :=
  cond x18 (some ((⟨p0_0, p0_1, p0_2, p0_3, p0_4⟩ : T_api_Trace), 3)) (some ((⟨p0_0, p0_1, p0_2, p0_3, p0_4⟩ : T_api_Trace), 0))
noncomputable def F_trace_end (p0_0 : Int) (p0_1 : Int) (p0_2 : Int) (p0_3 : (List T_api_Event)) (p0_4 : (List T_api_Mark)) (p1 : ByteArray) : Option (T_api_Trace × Int) :=
  (F_wire_Open p1).bind fun y2 => (F_wire_Reader_Num y2).bind fun y5 => (F_wire_Reader_Num y5.2).bind fun y6 => (F_wire_Reader_End y6.2).bind fun y11 => cond (y11 != 0) (some ((⟨p0_0, p0_1, p0_2, p0_3, p0_4⟩ : T_api_Trace), y11)) (cond (y5.1 != (wu64 ((p0_3).length : Int))) (F_trace_end_J1 p0_0 p0_1 p0_2 p0_3 p0_4 true) (F_trace_end_J1 p0_0 p0_1 p0_2 p0_3 p0_4 (y6.1 != (wu64 ((p0_4).length : Int)))))
/- trace_Next -/
noncomputable def F_trace_Next_J2 (y8 : T_api_Trace × Int) (x28 : Bool) : Option (T_api_Trace × Int) :=
  cond x28 (some ((⟨0, 0, 0, ([] : List T_api_Event), ([] : List T_api_Mark)⟩ : T_api_Trace), 3)) (some (y8.1, 0))
noncomputable def F_trace_Next_J3 (y8 : T_api_Trace × Int) (x31 : Bool) : Option (T_api_Trace × Int) :=
  cond x31 (F_trace_Next_J2 y8 x31) ((F_trace_Check y8.1).bind fun y33 => F_trace_Next_J2 y8 (y33 != 0))
noncomputable def F_trace_Next_J1 (p0 : T_api_Trace) (p1 : T_api_Frame) : Option (T_api_Trace × Int) :=
  (F_trace_copied p0).bind fun y7 => (F_trace_head y7.Sum y7.Fuel y7.Every y7.Events y7.Marks p1.Data).bind fun y8 => cond (y8.2 != 0) (some ((⟨0, 0, 0, ([] : List T_api_Event), ([] : List T_api_Mark)⟩ : T_api_Trace), y8.2)) (cond (p1.Kind != 1) (F_trace_Next_J3 y8 (p0.Every == 0)) (F_trace_Next_J3 y8 false))
noncomputable def F_trace_Next_J5 (y38 : T_api_Trace × Int) (x58 : Bool) : Option (T_api_Trace × Int) :=
  cond x58 (some ((⟨0, 0, 0, ([] : List T_api_Event), ([] : List T_api_Mark)⟩ : T_api_Trace), 3)) (some (y38.1, 0))
noncomputable def F_trace_Next_J6 (y38 : T_api_Trace × Int) (x61 : Bool) : Option (T_api_Trace × Int) :=
  cond x61 (F_trace_Next_J5 y38 x61) ((F_trace_Check y38.1).bind fun y63 => F_trace_Next_J5 y38 (y63 != 0))
noncomputable def F_trace_Next_J4 (p0 : T_api_Trace) (p1 : T_api_Frame) : Option (T_api_Trace × Int) :=
  (F_trace_copied p0).bind fun y37 => (F_trace_events y37.Sum y37.Fuel y37.Every y37.Events y37.Marks p1.Data).bind fun y38 => cond (y38.2 != 0) (some ((⟨0, 0, 0, ([] : List T_api_Event), ([] : List T_api_Mark)⟩ : T_api_Trace), y38.2)) (cond (p1.Kind != 1) (F_trace_Next_J6 y38 (p0.Every == 0)) (F_trace_Next_J6 y38 false))
noncomputable def F_trace_Next_J8 (y68 : T_api_Trace × Int) (x88 : Bool) : Option (T_api_Trace × Int) :=
  cond x88 (some ((⟨0, 0, 0, ([] : List T_api_Event), ([] : List T_api_Mark)⟩ : T_api_Trace), 3)) (some (y68.1, 0))
noncomputable def F_trace_Next_J9 (y68 : T_api_Trace × Int) (x91 : Bool) : Option (T_api_Trace × Int) :=
  cond x91 (F_trace_Next_J8 y68 x91) ((F_trace_Check y68.1).bind fun y93 => F_trace_Next_J8 y68 (y93 != 0))
noncomputable def F_trace_Next_J7 (p0 : T_api_Trace) (p1 : T_api_Frame) : Option (T_api_Trace × Int) :=
  (F_trace_copied p0).bind fun y67 => (F_trace_mark y67.Sum y67.Fuel y67.Every y67.Events y67.Marks p1.Data).bind fun y68 => cond (y68.2 != 0) (some ((⟨0, 0, 0, ([] : List T_api_Event), ([] : List T_api_Mark)⟩ : T_api_Trace), y68.2)) (cond (p1.Kind != 1) (F_trace_Next_J9 y68 (p0.Every == 0)) (F_trace_Next_J9 y68 false))
noncomputable def F_trace_Next_J11 (y98 : T_api_Trace × Int) (x118 : Bool) : Option (T_api_Trace × Int) :=
  cond x118 (some ((⟨0, 0, 0, ([] : List T_api_Event), ([] : List T_api_Mark)⟩ : T_api_Trace), 3)) (some (y98.1, 0))
noncomputable def F_trace_Next_J12 (y98 : T_api_Trace × Int) (x121 : Bool) : Option (T_api_Trace × Int) :=
  cond x121 (F_trace_Next_J11 y98 x121) ((F_trace_Check y98.1).bind fun y123 => F_trace_Next_J11 y98 (y123 != 0))
noncomputable def F_trace_Next_J10 (p0 : T_api_Trace) (p1 : T_api_Frame) : Option (T_api_Trace × Int) :=
  (F_trace_copied p0).bind fun y97 => (F_trace_end y97.Sum y97.Fuel y97.Every y97.Events y97.Marks p1.Data).bind fun y98 => cond (y98.2 != 0) (some ((⟨0, 0, 0, ([] : List T_api_Event), ([] : List T_api_Mark)⟩ : T_api_Trace), y98.2)) (cond (p1.Kind != 1) (F_trace_Next_J12 y98 (p0.Every == 0)) (F_trace_Next_J12 y98 false))
noncomputable def F_trace_Next_J13  : Option (T_api_Trace × Int) :=
  some ((⟨0, 0, 0, ([] : List T_api_Event), ([] : List T_api_Mark)⟩ : T_api_Trace), 3)
noncomputable def F_trace_Next (p0 : T_api_Trace) (p1 : T_api_Frame) : Option (T_api_Trace × Int) :=
  cond (p1.Kind == 1) (F_trace_Next_J1 p0 p1) (cond (p1.Kind == 2) (F_trace_Next_J4 p0 p1) (cond (p1.Kind == 3) (F_trace_Next_J7 p0 p1) (cond (p1.Kind == 4) (F_trace_Next_J10 p0 p1) (F_trace_Next_J13))))
/- salvage_Of_1 -/
/- salvage_Of_1_v2 -/
noncomputable def F_salvage_Of_1_v2_J1 (y6 : T_api_Trace × Int) (x8 : Int) (x9 : Int) (x10 : Int) (x11 : Int) (x12 : (List T_api_Event)) (x13 : (List T_api_Mark)) (x14 : Int) : Option (Int × Int × T_api_Trace × Int) :=
  some (y6.2, x8, (⟨x9, x10, x11, x12, x13⟩ : T_api_Trace), x14)
noncomputable def F_salvage_Of_1_v2 (o0_0 : ByteArray) (o1_0 : Int) (o2 : T_api_Trace) (o3_0 : Int) : Option (Int × Int × T_api_Trace × Int) :=
  (F_frame_Next o0_0 o1_0).bind fun y2 => cond (y2.2.2 != 0) (some (y2.2.2, o1_0, o2, o3_0)) ((F_trace_Next o2 y2.1).bind fun y6 => cond (y6.2 == 0) (F_salvage_Of_1_v2_J1 y6 y2.2.1 y6.1.Sum y6.1.Fuel y6.1.Every y6.1.Events y6.1.Marks y2.1.Kind) (F_salvage_Of_1_v2_J1 y6 o1_0 o2.Sum o2.Fuel o2.Every o2.Events o2.Marks o3_0))
/- salvage_Of -/
noncomputable def F_salvage_Of_L1 (p0 : ByteArray) (x18 : Int) (x19 : Int) (x20 : Int) (x21 : (List T_api_Event)) (x22 : (List T_api_Mark)) (x23 : Int) (x24 : Int) : Option ((Int × Int × Int × (List T_api_Event) × (List T_api_Mark) × Int × Int) ⊕ (T_api_Trace × Int × Int)) :=
  (F_salvage_Of_1_v2 p0 x23 (⟨x18, x19, x20, x21, x22⟩ : T_api_Trace) x24).bind fun y28 => cond (y28.1 != 0) ((some (y28.2.2.1, y28.2.1, y28.1)).map Sum.inr) (cond (y28.2.2.2 == 4) ((cond (decide (y28.2.1 < (p0.size : Int))) (some (y28.2.2.1, y28.2.1, 3)) (some (y28.2.2.1, y28.2.1, 0))).map Sum.inr) (some (.inl (y28.2.2.1.Sum, y28.2.2.1.Fuel, y28.2.2.1.Every, y28.2.2.1.Events, y28.2.2.1.Marks, y28.2.1, y28.2.2.2))))
noncomputable def F_salvage_Of (p0 : ByteArray) : Option (T_api_Trace × Int × Int) :=
  Loop (fun s : (Int × Int × Int × (List T_api_Event) × (List T_api_Mark) × Int × Int) => F_salvage_Of_L1 p0 s.1 s.2.1 s.2.2.1 s.2.2.2.1 s.2.2.2.2.1 s.2.2.2.2.2.1 s.2.2.2.2.2.2) (0, 0, 0, ([] : List T_api_Event), ([] : List T_api_Mark), 0, 0)
/- retraceref27_Same -/
noncomputable def F_retraceref27_Same_L1 (p0 : (List T_api_Event)) (p1 : (List T_api_Event)) (x22 : Int) : Option ((Int) ⊕ (Bool)) :=
  cond (decide (x22 < ((p0).length : Int))) ((lAt p0 x22).bind fun y34 => (lAt p1 x22).bind fun y35 => cond (!((y34.Kind == y35.Kind) && ((y34.N == y35.N) && true))) ((some false).map Sum.inr) (some (.inl (w64 (x22 + 1))))) ((some true).map Sum.inr)
noncomputable def F_retraceref27_Same (p0 : (List T_api_Event)) (p1 : (List T_api_Event)) : Option (Bool) :=
  cond (((p0).length : Int) != ((p1).length : Int)) (some false) (Loop (fun s : (Int) => F_retraceref27_Same_L1 p0 p1 s) 0)
/- retraceref03_Same -/
noncomputable def F_retraceref03_Same_L1 (p0 : (List Int)) (p1 : (List Int)) (x22 : Int) : Option ((Int) ⊕ (Bool)) :=
  cond (decide (x22 < ((p0).length : Int))) ((lAt p0 x22).bind fun y34 => (lAt p1 x22).bind fun y35 => cond (y34 != y35) ((some false).map Sum.inr) (some (.inl (w64 (x22 + 1))))) ((some true).map Sum.inr)
noncomputable def F_retraceref03_Same (p0 : (List Int)) (p1 : (List Int)) : Option (Bool) :=
  cond (((p0).length : Int) != ((p1).length : Int)) (some false) (Loop (fun s : (Int) => F_retraceref03_Same_L1 p0 p1 s) 0)
/- retraceref22_Alts -/
noncomputable def F_retraceref22_Alts_L1 (p0 : (List T_api_Alt)) (p1 : (List T_api_Alt)) (x22 : Int) : Option ((Int) ⊕ (Bool)) :=
  cond (decide (x22 < ((p0).length : Int))) ((lAt p0 x22).bind fun y34 => (lAt p1 x22).bind fun y35 => cond (!((y34.Kind == y35.Kind) && ((y34.Chan == y35.Chan) && ((y34.Val == y35.Val) && ((y34.Slot == y35.Slot) && ((y34.Goto == y35.Goto) && true)))))) ((some false).map Sum.inr) (some (.inl (w64 (x22 + 1))))) ((some true).map Sum.inr)
noncomputable def F_retraceref22_Alts (p0 : (List T_api_Alt)) (p1 : (List T_api_Alt)) : Option (Bool) :=
  cond (((p0).length : Int) != ((p1).length : Int)) (some false) (Loop (fun s : (Int) => F_retraceref22_Alts_L1 p0 p1 s) 0)
/- retraceref22_Same -/
noncomputable def F_retraceref22_Same_J2 (x26 : Bool) : Option (Bool) :=
  some x26
noncomputable def F_retraceref22_Same_J1 (p0 : T_api_Proc) (p1 : T_api_Proc) (x18 : Bool) : Option (Bool) :=
  cond x18 (some false) (cond (p0.Slot == p1.Slot) (cond (p0.Until == p1.Until) (cond (p0.Since == p1.Since) ((F_retraceref03_Same p0.Vars p1.Vars).bind fun y30 => cond y30 ((F_retraceref22_Alts p0.Alts p1.Alts).bind fun y32 => F_retraceref22_Same_J2 y32) (F_retraceref22_Same_J2 false)) (F_retraceref22_Same_J2 false)) (F_retraceref22_Same_J2 false)) (F_retraceref22_Same_J2 false))
noncomputable def F_retraceref22_Same (p0 : T_api_Proc) (p1 : T_api_Proc) : Option (Bool) :=
  cond (p0.Def != p1.Def) (F_retraceref22_Same_J1 p0 p1 true) (cond (p0.At != p1.At) (F_retraceref22_Same_J1 p0 p1 true) (cond (p0.Fuel != p1.Fuel) (F_retraceref22_Same_J1 p0 p1 true) (cond (p0.Mode != p1.Mode) (F_retraceref22_Same_J1 p0 p1 true) (cond (p0.Chan != p1.Chan) (F_retraceref22_Same_J1 p0 p1 true) (F_retraceref22_Same_J1 p0 p1 (p0.Val != p1.Val))))))
/- retraceref28_Same -/
noncomputable def F_retraceref28_Same_L2 (p0 : T_api_State) (p1 : T_api_State) (x49 : Int) : Option ((Int) ⊕ (Bool)) :=
  cond (decide (x49 < ((p0.Procs).length : Int))) ((lAt p0.Procs x49).bind fun y64 => (lAt p1.Procs x49).bind fun y65 => (F_retraceref22_Same y64 y65).bind fun y66 => cond (!y66) ((some false).map Sum.inr) (some (.inl (w64 (x49 + 1))))) ((some true).map Sum.inr)
noncomputable def F_retraceref28_Same_J1 (p0 : T_api_State) (p1 : T_api_State) (x24 : Bool) : Option (Bool) :=
  cond x24 (some false) (Loop (fun s : (Int) => F_retraceref28_Same_L2 p0 p1 s) 0)
noncomputable def F_retraceref28_Same (p0 : T_api_State) (p1 : T_api_State) : Option (Bool) :=
  cond (p0.Now != p1.Now) (F_retraceref28_Same_J1 p0 p1 true) (cond (p0.Since != p1.Since) (F_retraceref28_Same_J1 p0 p1 true) (cond (p0.Halt != p1.Halt) (F_retraceref28_Same_J1 p0 p1 true) (cond (p0.Fault != p1.Fault) (F_retraceref28_Same_J1 p0 p1 true) (cond (p0.Who != p1.Who) (F_retraceref28_Same_J1 p0 p1 true) ((F_retraceref03_Same p0.Out p1.Out).bind fun y77 => cond (!y77) (F_retraceref28_Same_J1 p0 p1 true) (F_retraceref28_Same_J1 p0 p1 (((p0.Procs).length : Int) != ((p1.Procs).length : Int))))))))
/- retraceref32_Same -/
noncomputable def F_retraceref32_Same_J2 (x53 : Int) (x77 : Bool) : Option ((Int) ⊕ (Bool)) :=
  cond x77 ((some false).map Sum.inr) (some (.inl (w64 (x53 + 1))))
noncomputable def F_retraceref32_Same_L3 (p0 : T_api_Trace) (p1 : T_api_Trace) (x53 : Int) : Option ((Int) ⊕ (Bool)) :=
  cond (decide (x53 < ((p0.Marks).length : Int))) ((lAt p0.Marks x53).bind fun y72 => (lAt p1.Marks x53).bind fun y73 => cond (y72.Step != y73.Step) (F_retraceref32_Same_J2 x53 true) (cond (y72.Events != y73.Events) (F_retraceref32_Same_J2 x53 true) ((F_retraceref28_Same y72.State y73.State).bind fun y83 => F_retraceref32_Same_J2 x53 (!y83)))) ((some true).map Sum.inr)
noncomputable def F_retraceref32_Same_J1 (p0 : T_api_Trace) (p1 : T_api_Trace) (x18 : Bool) : Option (Bool) :=
  cond x18 (some false) (Loop (fun s : (Int) => F_retraceref32_Same_L3 p0 p1 s) 0)
noncomputable def F_retraceref32_Same (p0 : T_api_Trace) (p1 : T_api_Trace) : Option (Bool) :=
  cond (p0.Sum != p1.Sum) (F_retraceref32_Same_J1 p0 p1 true) (cond (p0.Fuel != p1.Fuel) (F_retraceref32_Same_J1 p0 p1 true) (cond (p0.Every != p1.Every) (F_retraceref32_Same_J1 p0 p1 true) ((F_retraceref27_Same p0.Events p1.Events).bind fun y89 => cond (!y89) (F_retraceref32_Same_J1 p0 p1 true) (F_retraceref32_Same_J1 p0 p1 (((p0.Marks).length : Int) != ((p1.Marks).length : Int))))))
/- R_event_Steps_0 -/
noncomputable def F_R_event_Steps_0 (p0 : Int) (o1_0 : Int) : Option (Int) :=
  some (w64 (o1_0 + 1))
/- event_begins_1_v2 -/
noncomputable def F_event_begins_1_v2_J1 (x1 : Int) (x18 : Int) : Option ((Int × Int) ⊕ (Int)) :=
  some (.inl ((w64 (x1 + 1)), x18))
noncomputable def F_event_begins_1_v2_L2 (o2_0 : (List T_api_Event)) (x1 : Int) (x2 : Int) : Option ((Int × Int) ⊕ (Int)) :=
  cond (decide (x1 < ((o2_0).length : Int))) ((lAt o2_0 x1).bind fun y15 => cond (y15.Kind == 1) ((F_R_event_Steps_0 x1 x2).bind fun y20 => F_event_begins_1_v2_J1 x1 y20) (F_event_begins_1_v2_J1 x1 x2)) ((some x2).map Sum.inr)
noncomputable def F_event_begins_1_v2 (o1_0 : Int) (o2_0 : (List T_api_Event)) : Option (Int) :=
  Loop (fun s : (Int × Int) => F_event_begins_1_v2_L2 o2_0 s.1 s.2) (0, o1_0)
/- event_Steps -/
noncomputable def F_event_Steps (p0 : (List T_api_Event)) : Option (Int) :=
  (F_event_begins p0).bind fun y5 => (F_event_begins_1_v2 0 y5).bind fun y6 => some y6
/- salvage_Steps -/
noncomputable def F_salvage_Steps (p0 : T_api_Trace) : Option (Int) :=
  (F_event_Steps p0.Events).bind fun y2 => some y2
/- slices_Clone_retrace_api_Event_retrace_api_Event -/
noncomputable def F_slices_Clone_retrace_api_Event_retrace_api_Event (p0 : (List T_api_Event)) : Option ((List T_api_Event)) :=
  grd (((([] : List T_api_Event)).length + (p0).length) * 16 ≤ 140737488355328) <| some (([] : List T_api_Event) ++ p0)
/- slices_Clone_retrace_api_Mark_retrace_api_Mark -/
noncomputable def F_slices_Clone_retrace_api_Mark_retrace_api_Mark (p0 : (List T_api_Mark)) : Option ((List T_api_Mark)) :=
  grd (((([] : List T_api_Mark)).length + (p0).length) * 104 ≤ 140737488355328) <| some (([] : List T_api_Mark) ++ p0)
/- salvage_Cut_1 -/
noncomputable def F_salvage_Cut_1 (p0 : T_api_Mark) (o0_0 : Int) : Option (Bool) :=
  some (decide (o0_0 < p0.Step))
/- slices_IndexFunc_retrace_api_Mark_retrace_api_Mark -/
noncomputable def F_slices_IndexFunc_retrace_api_Mark_retrace_api_Mark_L1 (p0 : (List T_api_Mark)) (o0_0 : Int) (x20 : Int) : Option ((Int) ⊕ (Int)) :=
  cond (decide (x20 < ((p0).length : Int))) ((lAt p0 x20).bind fun y32 => (F_salvage_Cut_1 y32 o0_0).bind fun y33 => cond y33 ((some x20).map Sum.inr) (some (.inl (w64 (x20 + 1))))) ((some (-1)).map Sum.inr)
noncomputable def F_slices_IndexFunc_retrace_api_Mark_retrace_api_Mark (p0 : (List T_api_Mark)) (o0_0 : Int) : Option (Int) :=
  Loop (fun s : (Int) => F_slices_IndexFunc_retrace_api_Mark_retrace_api_Mark_L1 p0 o0_0 s) 0
/- slices_DeleteFunc_retrace_api_Mark_retrace_api_Mark -/
noncomputable def F_slices_DeleteFunc_retrace_api_Mark_retrace_api_Mark (o1_0 : Int) (o0 : (List T_api_Mark)) : Option ((List T_api_Mark)) :=
  (F_slices_IndexFunc_retrace_api_Mark_retrace_api_Mark o0 o1_0).bind fun y2 => cond (y2 == (-1)) (some o0) (none)
/- salvage_Cut -/
noncomputable def F_salvage_Cut (p0 : T_api_Trace) (p1 : Int) : Option (T_api_Trace) :=
  (F_event_Begin p0.Events p1).bind fun y2 => cond (decide (y2 < 0)) (some p0) (grd ((0 : Int) ≤ 0 ∧ (0 : Int) ≤ y2 ∧ y2 ≤ ((p0.Events).length : Int)) <| (F_slices_Clone_retrace_api_Event_retrace_api_Event (lCut p0.Events 0 y2)).bind fun y8 => (F_slices_Clone_retrace_api_Mark_retrace_api_Mark p0.Marks).bind fun y11 => (F_slices_DeleteFunc_retrace_api_Mark_retrace_api_Mark p1 y11).bind fun y12 => some (⟨p0.Sum, p0.Fuel, p0.Every, y8, y12⟩ : T_api_Trace))
/- retracelaw33_live -/
noncomputable def F_retracelaw33_live_J1 (x11 : Bool) : Option (Bool) :=
  some x11
noncomputable def F_retracelaw33_live  : Option (Bool) :=
  (F_salvage_Of (⟨#[]⟩ : ByteArray)).bind fun y2 => (F_retraceref32_Same y2.1 (⟨0, 0, 0, ([] : (List T_api_Event)), ([] : (List T_api_Mark))⟩ : T_api_Trace)).bind fun y12 => cond y12 (cond (y2.2.1 == 0) (cond (y2.2.2 == 2) ((F_salvage_Steps (⟨0, 0, 1, [(⟨1, 0⟩ : T_api_Event), (⟨1, 0⟩ : T_api_Event)], ([] : (List T_api_Mark))⟩ : T_api_Trace)).bind fun y16 => cond (y16 == 2) ((F_salvage_Cut (⟨0, 0, 1, [(⟨1, 0⟩ : T_api_Event), (⟨1, 0⟩ : T_api_Event)], ([] : (List T_api_Mark))⟩ : T_api_Trace) 1).bind fun y18 => (F_salvage_Steps y18).bind fun y19 => F_retracelaw33_live_J1 (y19 == 1)) (F_retracelaw33_live_J1 false)) (F_retracelaw33_live_J1 false)) (F_retracelaw33_live_J1 false)) (F_retracelaw33_live_J1 false)
/- retraceref01_Get -/
noncomputable def F_retraceref01_Get_J2 (p1 : Int) (x75 : Int) (x76 : Int) (x77 : Int) (y113 : Int) (x128 : Bool) : Option ((Int × Int × Int) ⊕ (T_retraceref01_Got)) :=
  cond x128 ((some (⟨0, 0, 3⟩ : T_retraceref01_Got)).map Sum.inr) (cond (decide (y113 < 128)) ((some (⟨(wu64 (x75 + (wu64 ((wu64 (Int.tmod y113 128)) * x76)))), (w64 ((w64 (p1 + x77)) + 1)), 0⟩ : T_retraceref01_Got)).map Sum.inr) (some (.inl ((wu64 (x75 + (wu64 ((wu64 (Int.tmod y113 128)) * x76)))), (wu64 (x76 * 128)), (w64 (x77 + 1))))))
noncomputable def F_retraceref01_Get_L3 (p0 : ByteArray) (p1 : Int) (x75 : Int) (x76 : Int) (x77 : Int) : Option ((Int × Int × Int) ⊕ (T_retraceref01_Got)) :=
  cond (decide (x77 < 10)) (cond (decide ((p0.size : Int) ≤ (w64 (p1 + x77)))) ((some (⟨0, 0, 2⟩ : T_retraceref01_Got)).map Sum.inr) ((sAt p0 (w64 (p1 + x77))).bind fun y113 => cond (x77 == 9) (cond (decide (1 < y113)) (F_retraceref01_Get_J2 p1 x75 x76 x77 y113 true) (cond (y113 == 0) (F_retraceref01_Get_J2 p1 x75 x76 x77 y113 (decide (0 < x77))) (F_retraceref01_Get_J2 p1 x75 x76 x77 y113 false))) (cond (y113 == 0) (F_retraceref01_Get_J2 p1 x75 x76 x77 y113 (decide (0 < x77))) (F_retraceref01_Get_J2 p1 x75 x76 x77 y113 false)))) ((some (⟨0, 0, 3⟩ : T_retraceref01_Got)).map Sum.inr)
noncomputable def F_retraceref01_Get_J1 (p0 : ByteArray) (p1 : Int) (x6 : Bool) : Option (T_retraceref01_Got) :=
  cond x6 (some (⟨0, 0, 1⟩ : T_retraceref01_Got)) (Loop (fun s : (Int × Int × Int) => F_retraceref01_Get_L3 p0 p1 s.1 s.2.1 s.2.2) (0, 1, 0))
noncomputable def F_retraceref01_Get (p0 : ByteArray) (p1 : Int) : Option (T_retraceref01_Got) :=
  cond (decide (p1 < 0)) (F_retraceref01_Get_J1 p0 p1 true) (F_retraceref01_Get_J1 p0 p1 (decide ((p0.size : Int) < p1)))
/- retraceref02_push -/
noncomputable def F_retraceref02_push_J1 (x57 : Int) (x63 : Int) : Option ((Int × Int) ⊕ ((Int × Int) ⊕ (Int))) :=
  some (.inl (x63, (w64 (x57 + 1))))
noncomputable def F_retraceref02_push_L2 (x36 : Int) (x56 : Int) (x57 : Int) : Option ((Int × Int) ⊕ ((Int × Int) ⊕ (Int))) :=
  cond (decide (x57 < 8)) (cond ((Int.tmod x56 2) == 1) (F_retraceref02_push_J1 x57 (bits .xor .u32 (wu32 (Int.tdiv x56 2)) 3988292384)) (F_retraceref02_push_J1 x57 (wu32 (Int.tdiv x56 2)))) ((some (.inl (x56, (w64 (x36 + 1))))).map Sum.inr)
noncomputable def F_retraceref02_push_L3 (p1 : ByteArray) (x35 : Int) (x36 : Int) : Option ((Int × Int) ⊕ (Int)) :=
  cond (decide (x36 < (p1.size : Int))) ((sAt p1 x36).bind fun y55 => Loop (fun s : (Int × Int) => F_retraceref02_push_L2 x36 s.1 s.2) ((bits .xor .u32 x35 (wu32 y55)), 0)) ((some x35).map Sum.inr)
noncomputable def F_retraceref02_push (p0 : Int) (p1 : ByteArray) : Option (Int) :=
  Loop (fun s : (Int × Int) => F_retraceref02_push_L3 p1 s.1 s.2) (p0, 0)
/- retraceref02_Sum -/
noncomputable def F_retraceref02_Sum (p0 : ByteArray) : Option (Int) :=
  (F_retraceref02_push 4294967295 p0).bind fun y2 => some (bits .xor .u32 y2 4294967295)
/- retraceref02_Bytes -/
noncomputable def F_retraceref02_Bytes (p0 : Int) : Option (ByteArray) :=
  some (strOfNums ([(wu8 (Int.tmod p0 256)), (wu8 (Int.tmod (wu32 (Int.tdiv p0 256)) 256)), (wu8 (Int.tmod (wu32 (Int.tdiv p0 65536)) 256)), (wu8 (wu32 (Int.tdiv p0 16777216)))]))
/- retraceref04_Next -/
noncomputable def F_retraceref04_Next_J1 (p0 : ByteArray) (p1 : Int) (x6 : Bool) : Option (T_retraceref04_Got) :=
  cond x6 (some (⟨(⟨0, (⟨#[]⟩ : ByteArray)⟩ : T_api_Frame), 0, 1⟩ : T_retraceref04_Got)) (cond (p1 == (p0.size : Int)) (some (⟨(⟨0, (⟨#[]⟩ : ByteArray)⟩ : T_api_Frame), 0, 2⟩ : T_retraceref04_Got)) ((F_retraceref01_Get p0 (w64 (p1 + 1))).bind fun y11 => cond (y11.E != 0) (some (⟨(⟨0, (⟨#[]⟩ : ByteArray)⟩ : T_api_Frame), 0, y11.E⟩ : T_retraceref04_Got)) (cond (decide (1048576 < y11.U)) (some (⟨(⟨0, (⟨#[]⟩ : ByteArray)⟩ : T_api_Frame), 0, 5⟩ : T_retraceref04_Got)) (grd ((0 : Int) ≤ y11.Next ∧ (y11.Next : Int) ≤ (p0.size : Int) ∧ (p0.size : Int) ≤ (p0.size : Int)) <| cond (decide (((p0.extract (Int.toNat y11.Next) (Int.toNat (p0.size : Int))).size : Int) < (w64 ((w64 y11.U) + 4)))) (some (⟨(⟨0, (⟨#[]⟩ : ByteArray)⟩ : T_api_Frame), 0, 2⟩ : T_retraceref04_Got)) (grd ((0 : Int) ≤ p1 ∧ (p1 : Int) ≤ (w64 (y11.Next + (w64 y11.U))) ∧ (w64 (y11.Next + (w64 y11.U))) ≤ (p0.size : Int)) <| (F_retraceref02_Sum (p0.extract (Int.toNat p1) (Int.toNat (w64 (y11.Next + (w64 y11.U)))))).bind fun y34 => (F_retraceref02_Bytes y34).bind fun y35 => grd ((0 : Int) ≤ (w64 y11.U) ∧ ((w64 y11.U) : Int) ≤ (w64 ((w64 y11.U) + 4)) ∧ (w64 ((w64 y11.U) + 4)) ≤ ((p0.extract (Int.toNat y11.Next) (Int.toNat (p0.size : Int))).size : Int)) <| cond (!(y35.toList == ((p0.extract (Int.toNat y11.Next) (Int.toNat (p0.size : Int))).extract (Int.toNat (w64 y11.U)) (Int.toNat (w64 ((w64 y11.U) + 4)))).toList)) (some (⟨(⟨0, (⟨#[]⟩ : ByteArray)⟩ : T_api_Frame), 0, 4⟩ : T_retraceref04_Got)) ((sAt p0 p1).bind fun y40 => grd ((0 : Int) ≤ 0 ∧ (0 : Int) ≤ (w64 y11.U) ∧ (w64 y11.U) ≤ ((p0.extract (Int.toNat y11.Next) (Int.toNat (p0.size : Int))).size : Int)) <| some (⟨(⟨(w64 y40), ((p0.extract (Int.toNat y11.Next) (Int.toNat (p0.size : Int))).extract (Int.toNat 0) (Int.toNat (w64 y11.U)))⟩ : T_api_Frame), (w64 ((w64 (y11.Next + (w64 y11.U))) + 4)), 0⟩ : T_retraceref04_Got)))))))
noncomputable def F_retraceref04_Next (p0 : ByteArray) (p1 : Int) : Option (T_retraceref04_Got) :=
  cond (decide (p1 < 0)) (F_retraceref04_Next_J1 p0 p1 true) (F_retraceref04_Next_J1 p0 p1 (decide ((p0.size : Int) < p1)))
/- retraceref03_Reader_fail -/
noncomputable def F_retraceref03_Reader_fail (p1 : Int) (o0 : T_retraceref03_Reader) : Option (T_retraceref03_Reader) :=
  cond (o0.Bad == 0) (some (⟨o0.S, p1⟩ : T_retraceref03_Reader)) (some o0)
/- retraceref03_Reader_Num -/
noncomputable def F_retraceref03_Reader_Num (o0 : T_retraceref03_Reader) : Option (Int × T_retraceref03_Reader) :=
  cond (o0.Bad != 0) (some (0, o0)) ((F_retraceref01_Get o0.S 0).bind fun y4 => cond (y4.E != 0) ((F_retraceref03_Reader_fail y4.E o0).bind fun y10 => some (0, y10)) (grd ((0 : Int) ≤ y4.Next ∧ (y4.Next : Int) ≤ (o0.S.size : Int) ∧ (o0.S.size : Int) ≤ (o0.S.size : Int)) <| some (y4.U, (⟨(o0.S.extract (Int.toNat y4.Next) (Int.toNat (o0.S.size : Int))), o0.Bad⟩ : T_retraceref03_Reader))))
/- retraceref03_Reader_Upto -/
noncomputable def F_retraceref03_Reader_Upto_J1 (o0 : T_retraceref03_Reader) (y2 : Int × T_retraceref03_Reader) (x13 : Bool) : Option (Int × T_retraceref03_Reader) :=
  cond x13 ((F_retraceref03_Reader_fail 6 (⟨o0.S, y2.2.Bad⟩ : T_retraceref03_Reader)).bind fun y16 => some (0, y16)) (some ((w64 y2.1), y2.2))
noncomputable def F_retraceref03_Reader_Upto (p1 : Int) (o0 : T_retraceref03_Reader) : Option (Int × T_retraceref03_Reader) :=
  (F_retraceref03_Reader_Num o0).bind fun y2 => cond (y2.2.Bad == 0) (cond (decide (p1 < 0)) (F_retraceref03_Reader_Upto_J1 o0 y2 true) (F_retraceref03_Reader_Upto_J1 o0 y2 (decide ((wu64 p1) < y2.1)))) (F_retraceref03_Reader_Upto_J1 o0 y2 false)
/- retraceref01_Zag -/
noncomputable def F_retraceref01_Zag (p0 : Int) : Option (Int) :=
  cond ((Int.tmod p0 2) == 1) (some (w64 ((w64 (0 - (w64 (wu64 (Int.tdiv p0 2))))) - 1))) (some (w64 (wu64 (Int.tdiv p0 2))))
/- retraceref03_Reader_Int -/
noncomputable def F_retraceref03_Reader_Int (o0 : T_retraceref03_Reader) : Option (Int × T_retraceref03_Reader) :=
  (F_retraceref03_Reader_Num o0).bind fun y3 => (F_retraceref01_Zag y3.1).bind fun y4 => some (y4, y3.2)
/- retraceref03_Reader_End -/
noncomputable def F_retraceref03_Reader_End_J1 (o0 : T_retraceref03_Reader) (x6 : Bool) : Option (Int) :=
  cond x6 (some 3) (some o0.Bad)
noncomputable def F_retraceref03_Reader_End (o0 : T_retraceref03_Reader) : Option (Int) :=
  cond (o0.Bad == 0) (F_retraceref03_Reader_End_J1 o0 (decide (0 < (o0.S.size : Int)))) (F_retraceref03_Reader_End_J1 o0 false)
/- retraceref31_Check -/
noncomputable def F_retraceref31_Check_J1 (x57 : Int) (x90 : Bool) : Option ((Int) ⊕ ((List Int))) :=
  cond x90 (grd ((([x57, 3] : List Int)).length = 2 ∧ ((List.replicate 2 (0 : Int))).length = 2) <| (grd ((([x57, 3] : List Int)).length = 2) <| some ([x57, 3] : List Int)).map Sum.inr) (some (.inl (w64 (x57 + 1))))
noncomputable def F_retraceref31_Check_L2 (p0 : (List T_api_Event)) (x57 : Int) : Option ((Int) ⊕ ((List Int))) :=
  cond (decide (x57 < ((p0).length : Int))) ((lAt p0 x57).bind fun y97 => cond (decide (y97.Kind < 1)) (F_retraceref31_Check_J1 x57 true) ((lAt p0 x57).bind fun y99 => cond (decide (3 < y99.Kind)) (F_retraceref31_Check_J1 x57 true) ((lAt p0 x57).bind fun y101 => cond (decide (y101.N < 0)) (F_retraceref31_Check_J1 x57 true) (cond (x57 == 0) ((lAt p0 x57).bind fun y104 => F_retraceref31_Check_J1 x57 (y104.Kind != 1)) (F_retraceref31_Check_J1 x57 false))))) ((grd ((([0, 0] : List Int)).length = 2 ∧ ((List.replicate 2 (0 : Int))).length = 2) <| grd ((([0, 0] : List Int)).length = 2) <| some ([0, 0] : List Int)).map Sum.inr)
noncomputable def F_retraceref31_Check (p0 : (List T_api_Event)) : Option ((List Int)) :=
  cond (decide (65536 < ((p0).length : Int))) (grd ((([65536, 13] : List Int)).length = 2 ∧ ((List.replicate 2 (0 : Int))).length = 2) <| grd ((([65536, 13] : List Int)).length = 2) <| some ([65536, 13] : List Int)) (Loop (fun s : (Int) => F_retraceref31_Check_L2 p0 s) 0)
/- retraceref31_Get -/
noncomputable def F_retraceref31_Get_J1 (x27 : Int) (x28 : ByteArray) (x29 : Int) (x30 : (List T_api_Event)) (x38 : Bool) : Option ((Int × ByteArray × Int × (List T_api_Event)) ⊕ (T_retraceref31_Got)) :=
  cond x38 ((F_retraceref03_Reader_Int (⟨x28, x29⟩ : T_retraceref03_Reader)).bind fun y45 => (F_retraceref03_Reader_Int y45.2).bind fun y46 => grd (((x30).length + ([(⟨y45.1, y46.1⟩ : T_api_Event)]).length) * 16 ≤ 140737488355328) <| some (.inl ((w64 (x27 + 1)), y46.2.S, y46.2.Bad, (x30 ++ [(⟨y45.1, y46.1⟩ : T_api_Event)])))) (((F_retraceref03_Reader_End (⟨x28, x29⟩ : T_retraceref03_Reader)).bind fun y54 => cond (y54 != 0) (some (⟨([] : List T_api_Event), y54⟩ : T_retraceref31_Got)) ((F_retraceref31_Check x30).bind fun y67 => grd ((y67).length = 2 ∧ ((List.replicate 2 (0 : Int))).length = 2) <| (aAt 2 y67 1).bind fun y70 => cond (y70 != 0) ((aAt 2 y67 1).bind fun y73 => some (⟨([] : List T_api_Event), y73⟩ : T_retraceref31_Got)) (some (⟨x30, 0⟩ : T_retraceref31_Got)))).map Sum.inr)
noncomputable def F_retraceref31_Get_L2 (y2 : Int × T_retraceref03_Reader) (x27 : Int) (x28 : ByteArray) (x29 : Int) (x30 : (List T_api_Event)) : Option ((Int × ByteArray × Int × (List T_api_Event)) ⊕ (T_retraceref31_Got)) :=
  cond (decide (x27 < y2.1)) (F_retraceref31_Get_J1 x27 x28 x29 x30 (x29 == 0)) (F_retraceref31_Get_J1 x27 x28 x29 x30 false)
noncomputable def F_retraceref31_Get (p0 : ByteArray) : Option (T_retraceref31_Got) :=
  (F_retraceref03_Reader_Upto 65536 (⟨p0, 0⟩ : T_retraceref03_Reader)).bind fun y2 => Loop (fun s : (Int × ByteArray × Int × (List T_api_Event)) => F_retraceref31_Get_L2 y2 s.1 s.2.1 s.2.2.1 s.2.2.2) (0, y2.2.S, y2.2.Bad, ([] : (List T_api_Event)))
/- retraceref03_Reader_Ints -/
noncomputable def F_retraceref03_Reader_Ints_J1 (x23 : Int) (x24 : ByteArray) (x25 : Int) (x26 : (List Int)) (x34 : Bool) : Option ((Int × ByteArray × Int × (List Int)) ⊕ ((List Int) × T_retraceref03_Reader)) :=
  cond x34 ((F_retraceref03_Reader_Int (⟨x24, x25⟩ : T_retraceref03_Reader)).bind fun y38 => grd (((x26).length + ([y38.1]).length) * 8 ≤ 140737488355328) <| some (.inl ((w64 (x23 + 1)), y38.2.S, y38.2.Bad, (x26 ++ [y38.1])))) ((cond (x25 != 0) (some (([] : List Int), (⟨x24, x25⟩ : T_retraceref03_Reader))) (some (x26, (⟨x24, x25⟩ : T_retraceref03_Reader)))).map Sum.inr)
noncomputable def F_retraceref03_Reader_Ints_L2 (y2 : Int × T_retraceref03_Reader) (x23 : Int) (x24 : ByteArray) (x25 : Int) (x26 : (List Int)) : Option ((Int × ByteArray × Int × (List Int)) ⊕ ((List Int) × T_retraceref03_Reader)) :=
  cond (decide (x23 < y2.1)) (F_retraceref03_Reader_Ints_J1 x23 x24 x25 x26 (x25 == 0)) (F_retraceref03_Reader_Ints_J1 x23 x24 x25 x26 false)
noncomputable def F_retraceref03_Reader_Ints (p1 : Int) (o0 : T_retraceref03_Reader) : Option ((List Int) × T_retraceref03_Reader) :=
  (F_retraceref03_Reader_Upto p1 o0).bind fun y2 => Loop (fun s : (Int × ByteArray × Int × (List Int)) => F_retraceref03_Reader_Ints_L2 y2 s.1 s.2.1 s.2.2.1 s.2.2.2) (0, y2.2.S, y2.2.Bad, ([] : (List Int)))
/- retraceref30_Read -/
noncomputable def F_retraceref30_Read_J2 (x227 : Int) (x230 : (List T_api_Proc)) (y340 : Int × T_retraceref03_Reader) (y342 : Int × T_retraceref03_Reader) (y344 : (List Int) × T_retraceref03_Reader) (y346 : Int × T_retraceref03_Reader) (y348 : Int × T_retraceref03_Reader) (y350 : Int × T_retraceref03_Reader) (y352 : Int × T_retraceref03_Reader) (y354 : Int × T_retraceref03_Reader) (y356 : Int × T_retraceref03_Reader) (y358 : Int × T_retraceref03_Reader) (x399 : Int) (x400 : ByteArray) (x401 : Int) (x402 : (List T_api_Alt)) (x410 : Bool) : Option ((Int × ByteArray × Int × (List T_api_Alt)) ⊕ ((Int × ByteArray × Int × (List T_api_Proc)) ⊕ (T_api_State × T_retraceref03_Reader))) :=
  cond x410 ((F_retraceref03_Reader_Int (⟨x400, x401⟩ : T_retraceref03_Reader)).bind fun y424 => (F_retraceref03_Reader_Int y424.2).bind fun y426 => (F_retraceref03_Reader_Int y426.2).bind fun y428 => (F_retraceref03_Reader_Int y428.2).bind fun y430 => (F_retraceref03_Reader_Int y430.2).bind fun y432 => grd (((x402).length + ([(⟨y424.1, y426.1, y428.1, y430.1, y432.1⟩ : T_api_Alt)]).length) * 40 ≤ 140737488355328) <| some (.inl ((w64 (x399 + 1)), y432.2.S, y432.2.Bad, (x402 ++ [(⟨y424.1, y426.1, y428.1, y430.1, y432.1⟩ : T_api_Alt)])))) ((grd (((x230).length + ([(⟨y340.1, y342.1, y344.1, y346.1, y348.1, y350.1, y352.1, y354.1, y356.1, y358.1, x402⟩ : T_api_Proc)]).length) * 120 ≤ 140737488355328) <| some (.inl ((w64 (x227 + 1)), x400, x401, (x230 ++ [(⟨y340.1, y342.1, y344.1, y346.1, y348.1, y350.1, y352.1, y354.1, y356.1, y358.1, x402⟩ : T_api_Proc)])))).map Sum.inr)
noncomputable def F_retraceref30_Read_L3 (x227 : Int) (x230 : (List T_api_Proc)) (y340 : Int × T_retraceref03_Reader) (y342 : Int × T_retraceref03_Reader) (y344 : (List Int) × T_retraceref03_Reader) (y346 : Int × T_retraceref03_Reader) (y348 : Int × T_retraceref03_Reader) (y350 : Int × T_retraceref03_Reader) (y352 : Int × T_retraceref03_Reader) (y354 : Int × T_retraceref03_Reader) (y356 : Int × T_retraceref03_Reader) (y358 : Int × T_retraceref03_Reader) (y360 : Int × T_retraceref03_Reader) (x399 : Int) (x400 : ByteArray) (x401 : Int) (x402 : (List T_api_Alt)) : Option ((Int × ByteArray × Int × (List T_api_Alt)) ⊕ ((Int × ByteArray × Int × (List T_api_Proc)) ⊕ (T_api_State × T_retraceref03_Reader))) :=
  cond (decide (x399 < y360.1)) (F_retraceref30_Read_J2 x227 x230 y340 y342 y344 y346 y348 y350 y352 y354 y356 y358 x399 x400 x401 x402 (x401 == 0)) (F_retraceref30_Read_J2 x227 x230 y340 y342 y344 y346 y348 y350 y352 y354 y356 y358 x399 x400 x401 x402 false)
noncomputable def F_retraceref30_Read_J1 (y2 : Int × T_retraceref03_Reader) (y4 : Int × T_retraceref03_Reader) (y6 : Int × T_retraceref03_Reader) (y8 : Int × T_retraceref03_Reader) (y10 : Int × T_retraceref03_Reader) (x227 : Int) (x228 : ByteArray) (x229 : Int) (x230 : (List T_api_Proc)) (x238 : Bool) : Option ((Int × ByteArray × Int × (List T_api_Proc)) ⊕ (T_api_State × T_retraceref03_Reader)) :=
  cond x238 ((F_retraceref03_Reader_Int (⟨x228, x229⟩ : T_retraceref03_Reader)).bind fun y340 => (F_retraceref03_Reader_Int y340.2).bind fun y342 => (F_retraceref03_Reader_Ints 4096 y342.2).bind fun y344 => (F_retraceref03_Reader_Int y344.2).bind fun y346 => (F_retraceref03_Reader_Int y346.2).bind fun y348 => (F_retraceref03_Reader_Int y348.2).bind fun y350 => (F_retraceref03_Reader_Int y350.2).bind fun y352 => (F_retraceref03_Reader_Int y352.2).bind fun y354 => (F_retraceref03_Reader_Int y354.2).bind fun y356 => (F_retraceref03_Reader_Int y356.2).bind fun y358 => (F_retraceref03_Reader_Upto 4096 y358.2).bind fun y360 => Loop (fun s : (Int × ByteArray × Int × (List T_api_Alt)) => F_retraceref30_Read_L3 x227 x230 y340 y342 y344 y346 y348 y350 y352 y354 y356 y358 y360 s.1 s.2.1 s.2.2.1 s.2.2.2) (0, y360.2.S, y360.2.Bad, ([] : (List T_api_Alt)))) (((F_retraceref03_Reader_Ints 1048576 (⟨x228, x229⟩ : T_retraceref03_Reader)).bind fun y441 => cond (y441.2.Bad != 0) (some ((⟨0, 0, 0, 0, 0, ([] : List T_api_Proc), ([] : List Int)⟩ : T_api_State), y441.2)) (some ((⟨y2.1, y4.1, y6.1, y8.1, y10.1, x230, y441.1⟩ : T_api_State), y441.2))).map Sum.inr)
noncomputable def F_retraceref30_Read_L4 (y2 : Int × T_retraceref03_Reader) (y4 : Int × T_retraceref03_Reader) (y6 : Int × T_retraceref03_Reader) (y8 : Int × T_retraceref03_Reader) (y10 : Int × T_retraceref03_Reader) (y12 : Int × T_retraceref03_Reader) (x227 : Int) (x228 : ByteArray) (x229 : Int) (x230 : (List T_api_Proc)) : Option ((Int × ByteArray × Int × (List T_api_Proc)) ⊕ (T_api_State × T_retraceref03_Reader)) :=
  cond (decide (x227 < y12.1)) (F_retraceref30_Read_J1 y2 y4 y6 y8 y10 x227 x228 x229 x230 (x229 == 0)) (F_retraceref30_Read_J1 y2 y4 y6 y8 y10 x227 x228 x229 x230 false)
noncomputable def F_retraceref30_Read (o0 : T_retraceref03_Reader) : Option (T_api_State × T_retraceref03_Reader) :=
  (F_retraceref03_Reader_Int o0).bind fun y2 => (F_retraceref03_Reader_Int y2.2).bind fun y4 => (F_retraceref03_Reader_Int y4.2).bind fun y6 => (F_retraceref03_Reader_Int y6.2).bind fun y8 => (F_retraceref03_Reader_Int y8.2).bind fun y10 => (F_retraceref03_Reader_Upto 4096 y10.2).bind fun y12 => Loop (fun s : (Int × ByteArray × Int × (List T_api_Proc)) => F_retraceref30_Read_L4 y2 y4 y6 y8 y10 y12 s.1 s.2.1 s.2.2.1 s.2.2.2) (0, y12.2.S, y12.2.Bad, ([] : (List T_api_Proc)))
/- retraceref31_Right -/
noncomputable def F_retraceref31_Right (p0 : (List T_api_Event)) : Option (Bool) :=
  (F_retraceref31_Check p0).bind fun y3 => grd ((y3).length = 2 ∧ (([0, 0] : List Int)).length = 2) <| some (y3 == ([0, 0] : List Int))
/- retraceref31_Begins -/
noncomputable def F_retraceref31_Begins_J1 (x18 : Int) (x28 : (List Int)) : Option ((Int × (List Int)) ⊕ ((List Int))) :=
  some (.inl ((w64 (x18 + 1)), x28))
noncomputable def F_retraceref31_Begins_L2 (p0 : (List T_api_Event)) (x18 : Int) (x19 : (List Int)) : Option ((Int × (List Int)) ⊕ ((List Int))) :=
  cond (decide (x18 < ((p0).length : Int))) ((lAt p0 x18).bind fun y30 => cond (y30.Kind == 1) (grd (((x19).length + ([x18]).length) * 8 ≤ 140737488355328) <| F_retraceref31_Begins_J1 x18 (x19 ++ [x18])) (F_retraceref31_Begins_J1 x18 x19)) ((some x19).map Sum.inr)
noncomputable def F_retraceref31_Begins (p0 : (List T_api_Event)) : Option ((List Int)) :=
  Loop (fun s : (Int × (List Int)) => F_retraceref31_Begins_L2 p0 s.1 s.2) (0, ([] : (List Int)))
/- retraceref31_Begin -/
noncomputable def F_retraceref31_Begin_J1 (p0 : (List T_api_Event)) (p1 : Int) (y3 : (List Int)) (x10 : Bool) : Option (Int) :=
  cond x10 (some (-1)) ((lAt (y3 ++ [((p0).length : Int)]) p1).bind fun y13 => some y13)
noncomputable def F_retraceref31_Begin (p0 : (List T_api_Event)) (p1 : Int) : Option (Int) :=
  (F_retraceref31_Begins p0).bind fun y3 => grd (((y3).length + ([((p0).length : Int)]).length) * 8 ≤ 140737488355328) <| cond (decide (p1 < 0)) (F_retraceref31_Begin_J1 p0 p1 y3 true) (F_retraceref31_Begin_J1 p0 p1 y3 (decide ((((y3 ++ [((p0).length : Int)])).length : Int) ≤ p1)))
/- retraceref32_Is -/
noncomputable def F_retraceref32_Is_J2 (p0 : T_api_Trace) (x86 : Int) (x87 : Int) (x140 : Bool) : Option ((Int × Int) ⊕ (Bool)) :=
  cond x140 ((some false).map Sum.inr) (some (.inl ((w64 (x86 + p0.Every)), (w64 (x87 + 1)))))
noncomputable def F_retraceref32_Is_L3 (p0 : T_api_Trace) (x86 : Int) (x87 : Int) : Option ((Int × Int) ⊕ (Bool)) :=
  cond (decide (x87 < ((p0.Marks).length : Int))) ((lAt p0.Marks x87).bind fun y144 => cond (y144.Step != x86) (F_retraceref32_Is_J2 p0 x86 x87 true) ((lAt p0.Marks x87).bind fun y146 => (F_retraceref31_Begin p0.Events x86).bind fun y147 => cond (y146.Events != y147) (F_retraceref32_Is_J2 p0 x86 x87 true) ((lAt p0.Marks x87).bind fun y149 => F_retraceref32_Is_J2 p0 x86 x87 (decide (y149.Events < 0))))) ((some true).map Sum.inr)
noncomputable def F_retraceref32_Is_J1 (p0 : T_api_Trace) (x18 : Bool) : Option (Bool) :=
  cond x18 (some false) (Loop (fun s : (Int × Int) => F_retraceref32_Is_L3 p0 s.1 s.2) (0, 0))
noncomputable def F_retraceref32_Is (p0 : T_api_Trace) : Option (Bool) :=
  (F_retraceref31_Right p0.Events).bind fun y152 => cond (!y152) (F_retraceref32_Is_J1 p0 true) (cond (decide (p0.Fuel < 0)) (F_retraceref32_Is_J1 p0 true) (cond (decide (1048576 < p0.Fuel)) (F_retraceref32_Is_J1 p0 true) (cond (decide (p0.Every < 1)) (F_retraceref32_Is_J1 p0 true) (F_retraceref32_Is_J1 p0 (decide (1048576 < p0.Every))))))
/- retraceref32_Next -/
noncomputable def F_retraceref32_Next_J2 (x36 : Int) (x37 : Int) (x38 : Int) (x39 : (List T_api_Event)) (x40 : (List T_api_Mark)) (x55 : Bool) : Option (T_retraceref32_Got) :=
  cond x55 (some (⟨(⟨0, 0, 0, ([] : List T_api_Event), ([] : List T_api_Mark)⟩ : T_api_Trace), 3⟩ : T_retraceref32_Got)) (some (⟨(⟨x36, x37, x38, x39, x40⟩ : T_api_Trace), 0⟩ : T_retraceref32_Got))
noncomputable def F_retraceref32_Next_J1 (x33 : Bool) (x34 : ByteArray) (x35 : Int) (x36 : Int) (x37 : Int) (x38 : Int) (x39 : (List T_api_Event)) (x40 : (List T_api_Mark)) : Option (T_retraceref32_Got) :=
  (F_retraceref03_Reader_End (⟨x34, x35⟩ : T_retraceref03_Reader)).bind fun y45 => cond (y45 != 0) (some (⟨(⟨0, 0, 0, ([] : List T_api_Event), ([] : List T_api_Mark)⟩ : T_api_Trace), y45⟩ : T_retraceref32_Got)) (cond (!x33) (F_retraceref32_Next_J2 x36 x37 x38 x39 x40 true) ((F_retraceref32_Is (⟨x36, x37, x38, x39, x40⟩ : T_api_Trace)).bind fun y58 => F_retraceref32_Next_J2 x36 x37 x38 x39 x40 (!y58)))
noncomputable def F_retraceref32_Next (p0 : T_api_Trace) (p1 : T_api_Frame) : Option (T_retraceref32_Got) :=
  cond (p1.Kind == 1) ((F_retraceref03_Reader_Num (⟨p1.Data, 0⟩ : T_retraceref03_Reader)).bind fun y61 => (F_retraceref03_Reader_Upto 1048576 y61.2).bind fun y64 => (F_retraceref03_Reader_Upto 1048576 y64.2).bind fun y65 => cond (decide (y61.1 < 4294967296)) ((F_retraceref32_Same p0 (⟨0, 0, 0, ([] : (List T_api_Event)), ([] : (List T_api_Mark))⟩ : T_api_Trace)).bind fun y67 => F_retraceref32_Next_J1 y67 y65.2.S y65.2.Bad (wu32 y61.1) y64.1 y65.1 ([] : List T_api_Event) ([] : List T_api_Mark)) (F_retraceref32_Next_J1 false y65.2.S y65.2.Bad (wu32 y61.1) y64.1 y65.1 ([] : List T_api_Event) ([] : List T_api_Mark))) (cond (p1.Kind == 2) ((F_retraceref31_Get p1.Data).bind fun y70 => cond (y70.E != 0) (some (⟨(⟨0, 0, 0, ([] : List T_api_Event), ([] : List T_api_Mark)⟩ : T_api_Trace), y70.E⟩ : T_retraceref32_Got)) (grd (((([] : List T_api_Event)).length + (p0.Events).length) * 16 ≤ 140737488355328) <| grd ((((([] : List T_api_Event) ++ p0.Events)).length + (y70.L).length) * 16 ≤ 140737488355328) <| F_retraceref32_Next_J1 (p0.Every != 0) (⟨#[]⟩ : ByteArray) 0 p0.Sum p0.Fuel p0.Every ((([] : List T_api_Event) ++ p0.Events) ++ y70.L) p0.Marks)) (cond (p1.Kind == 3) ((F_retraceref03_Reader_Upto 1048576 (⟨p1.Data, 0⟩ : T_retraceref03_Reader)).bind fun y78 => (F_retraceref03_Reader_Upto 1048576 y78.2).bind fun y79 => (F_retraceref30_Read y79.2).bind fun y81 => grd (((([] : List T_api_Mark)).length + (p0.Marks).length) * 104 ≤ 140737488355328) <| grd ((((([] : List T_api_Mark) ++ p0.Marks)).length + ([(⟨y78.1, y79.1, y81.1⟩ : T_api_Mark)]).length) * 104 ≤ 140737488355328) <| F_retraceref32_Next_J1 (p0.Every != 0) y81.2.S y81.2.Bad p0.Sum p0.Fuel p0.Every p0.Events ((([] : List T_api_Mark) ++ p0.Marks) ++ [(⟨y78.1, y79.1, y81.1⟩ : T_api_Mark)])) (cond (p1.Kind == 4) ((F_retraceref03_Reader_Num (⟨p1.Data, 0⟩ : T_retraceref03_Reader)).bind fun y87 => (F_retraceref03_Reader_Num y87.2).bind fun y88 => cond (p0.Every != 0) (cond (y87.1 == (wu64 ((p0.Events).length : Int))) (F_retraceref32_Next_J1 (y88.1 == (wu64 ((p0.Marks).length : Int))) y88.2.S y88.2.Bad p0.Sum p0.Fuel p0.Every p0.Events p0.Marks) (F_retraceref32_Next_J1 false y88.2.S y88.2.Bad p0.Sum p0.Fuel p0.Every p0.Events p0.Marks)) (F_retraceref32_Next_J1 false y88.2.S y88.2.Bad p0.Sum p0.Fuel p0.Every p0.Events p0.Marks)) (some (⟨(⟨0, 0, 0, ([] : List T_api_Event), ([] : List T_api_Mark)⟩ : T_api_Trace), 3⟩ : T_retraceref32_Got)))))
/- retraceref33_Of -/
noncomputable def F_retraceref33_Of_J1 (y10 : T_retraceref04_Got) (y16 : T_retraceref32_Got) (x23 : Int) : Option ((Int × Int × Int × (List T_api_Event) × (List T_api_Mark) × Int) ⊕ (T_retraceref33_Got)) :=
  (some (⟨y16.T, y10.Next, x23⟩ : T_retraceref33_Got)).map Sum.inr
noncomputable def F_retraceref33_Of_L2 (p0 : ByteArray) (x1 : Int) (x2 : Int) (x3 : Int) (x4 : (List T_api_Event)) (x5 : (List T_api_Mark)) (x6 : Int) : Option ((Int × Int × Int × (List T_api_Event) × (List T_api_Mark) × Int) ⊕ (T_retraceref33_Got)) :=
  (F_retraceref04_Next p0 x6).bind fun y10 => cond (y10.E != 0) ((some (⟨(⟨x1, x2, x3, x4, x5⟩ : T_api_Trace), x6, y10.E⟩ : T_retraceref33_Got)).map Sum.inr) ((F_retraceref32_Next (⟨x1, x2, x3, x4, x5⟩ : T_api_Trace) y10.F).bind fun y16 => cond (y16.E != 0) ((some (⟨(⟨x1, x2, x3, x4, x5⟩ : T_api_Trace), x6, y16.E⟩ : T_retraceref33_Got)).map Sum.inr) (cond (y10.F.Kind == 4) (cond (decide (y10.Next < (p0.size : Int))) (F_retraceref33_Of_J1 y10 y16 3) (F_retraceref33_Of_J1 y10 y16 0)) (some (.inl (y16.T.Sum, y16.T.Fuel, y16.T.Every, y16.T.Events, y16.T.Marks, y10.Next)))))
noncomputable def F_retraceref33_Of (p0 : ByteArray) : Option (T_retraceref33_Got) :=
  Loop (fun s : (Int × Int × Int × (List T_api_Event) × (List T_api_Mark) × Int) => F_retraceref33_Of_L2 p0 s.1 s.2.1 s.2.2.1 s.2.2.2.1 s.2.2.2.2.1 s.2.2.2.2.2) (0, 0, 0, ([] : List T_api_Event), ([] : List T_api_Mark), 0)
/- retracelaw33_SalvageOf -/
/- retraceref04_Right -/
noncomputable def F_retraceref04_Right_J1 (x26 : Int) (x42 : Bool) : Option ((Int) ⊕ (Bool)) :=
  cond x42 ((some false).map Sum.inr) (some (.inl (w64 (x26 + 1))))
noncomputable def F_retraceref04_Right_L2 (p0 : (List T_api_Frame)) (x26 : Int) : Option ((Int) ⊕ (Bool)) :=
  cond (decide (x26 < ((p0).length : Int))) ((lAt p0 x26).bind fun y46 => cond (decide (y46.Kind < 0)) (F_retraceref04_Right_J1 x26 true) ((lAt p0 x26).bind fun y48 => F_retraceref04_Right_J1 x26 (decide (255 < y48.Kind)))) ((some true).map Sum.inr)
noncomputable def F_retraceref04_Right (p0 : (List T_api_Frame)) : Option (Bool) :=
  Loop (fun s : (Int) => F_retraceref04_Right_L2 p0 s) 0
/- retraceref01_Num -/
noncomputable def F_retraceref01_Num_B (self : Int → Option (ByteArray)) (p0 : Int) : Option (ByteArray) :=
  cond (decide (p0 < 128)) (some (strOfNums ([(wu8 p0)]))) ((self (wu64 (Int.tdiv p0 128))).bind fun y5 => grd ((strOfNums ([(wu8 ((wu8 (Int.tmod p0 128)) + 128))])).size + y5.size ≤ 9223372036854775807) <| some ((strOfNums ([(wu8 ((wu8 (Int.tmod p0 128)) + 128))])) ++ y5))
noncomputable def F_retraceref01_Num_N : Nat → Int → Option (ByteArray)
  | 0 => fun _ => none
  | n + 1 => F_retraceref01_Num_B (F_retraceref01_Num_N n)
noncomputable def F_retraceref01_Num (p0 : Int) : Option (ByteArray) :=
  lim fun n => F_retraceref01_Num_N n p0
/- retraceref04_Bytes -/
noncomputable def F_retraceref04_Bytes_J1 (p0 : T_api_Frame) (x6 : Bool) : Option (ByteArray × Int) :=
  cond x6 (some ((⟨#[]⟩ : ByteArray), 1)) (cond (decide (1048576 < (p0.Data.size : Int))) (some ((⟨#[]⟩ : ByteArray), 5)) ((F_retraceref01_Num (wu64 (p0.Data.size : Int))).bind fun y13 => grd ((strOfNums ([(wu8 p0.Kind)])).size + y13.size ≤ 9223372036854775807) <| grd (((strOfNums ([(wu8 p0.Kind)])) ++ y13).size + p0.Data.size ≤ 9223372036854775807) <| (F_retraceref02_Sum (((strOfNums ([(wu8 p0.Kind)])) ++ y13) ++ p0.Data)).bind fun y19 => (F_retraceref02_Bytes y19).bind fun y20 => grd ((((strOfNums ([(wu8 p0.Kind)])) ++ y13) ++ p0.Data).size + y20.size ≤ 9223372036854775807) <| some (((((strOfNums ([(wu8 p0.Kind)])) ++ y13) ++ p0.Data) ++ y20), 0)))
noncomputable def F_retraceref04_Bytes (p0 : T_api_Frame) : Option (ByteArray × Int) :=
  cond (decide (p0.Kind < 0)) (F_retraceref04_Bytes_J1 p0 true) (F_retraceref04_Bytes_J1 p0 (decide (255 < p0.Kind)))
/- retraceref04_Joined -/
noncomputable def F_retraceref04_Joined_L1 (p0 : (List T_api_Frame)) (x24 : ByteArray) (x25 : Int) (x26 : (List Int)) : Option ((ByteArray × Int × (List Int)) ⊕ (ByteArray × (List Int))) :=
  cond (decide (x25 < ((p0).length : Int))) (grd (((x26).length + ([(x24.size : Int)]).length) * 8 ≤ 140737488355328) <| (lAt p0 x25).bind fun y42 => (F_retraceref04_Bytes y42).bind fun y43 => grd (x24.size + y43.1.size ≤ 9223372036854775807) <| some (.inl ((x24 ++ y43.1), (w64 (x25 + 1)), (x26 ++ [(x24.size : Int)])))) ((grd (((x26).length + ([(x24.size : Int)]).length) * 8 ≤ 140737488355328) <| some (x24, (x26 ++ [(x24.size : Int)]))).map Sum.inr)
noncomputable def F_retraceref04_Joined (p0 : (List T_api_Frame)) : Option (ByteArray × (List Int)) :=
  Loop (fun s : (ByteArray × Int × (List Int)) => F_retraceref04_Joined_L1 p0 s.1 s.2.1 s.2.2) ((⟨#[]⟩ : ByteArray), 0, ([] : (List Int)))
/- retracelaw33_SalvageFrames -/
noncomputable def F_retracelaw33_SalvageFrames_J2 (x71 : Bool) : Option (Bool) :=
  some x71
noncomputable def F_retracelaw33_SalvageFrames_L3 (p0 : (List T_api_Frame)) (p1 : ByteArray) (x37 : Int) : Option ((Int) ⊕ (Bool)) :=
  cond (decide (x37 < ((p0).length : Int))) ((lAt p0 x37).bind fun y48 => cond (decide (800 < (y48.Data.size : Int))) ((F_retracelaw33_live).bind fun y51 => (some y51).map Sum.inr) (some (.inl (w64 (x37 + 1))))) (((F_retraceref04_Joined p0).bind fun y57 => grd (y57.1.size + p1.size ≤ 9223372036854775807) <| (F_salvage_Of (y57.1 ++ p1)).bind fun y61 => grd (y57.1.size + p1.size ≤ 9223372036854775807) <| (F_retraceref33_Of (y57.1 ++ p1)).bind fun y65 => (F_retraceref32_Same y61.1 y65.T).bind fun y72 => cond y72 (cond (y61.2.1 == y65.At) (cond (y61.2.2 == y65.E) ((F_retracelaw33_live).bind fun y76 => F_retracelaw33_SalvageFrames_J2 y76) (F_retracelaw33_SalvageFrames_J2 false)) (F_retracelaw33_SalvageFrames_J2 false)) (F_retracelaw33_SalvageFrames_J2 false)).map Sum.inr)
noncomputable def F_retracelaw33_SalvageFrames_J1 (p0 : (List T_api_Frame)) (p1 : ByteArray) (x14 : Bool) : Option (Bool) :=
  cond x14 ((F_retracelaw33_live).bind fun y17 => some y17) (Loop (fun s : (Int) => F_retracelaw33_SalvageFrames_L3 p0 p1 s) 0)
noncomputable def F_retracelaw33_SalvageFrames (p0 : (List T_api_Frame)) (p1 : ByteArray) : Option (Bool) :=
  cond (decide (20 < ((p0).length : Int))) (F_retracelaw33_SalvageFrames_J1 p0 p1 true) (cond (decide (200 < (p1.size : Int))) (F_retracelaw33_SalvageFrames_J1 p0 p1 true) ((F_retraceref04_Right p0).bind fun y79 => F_retracelaw33_SalvageFrames_J1 p0 p1 (!y79)))

end Go.Ab
