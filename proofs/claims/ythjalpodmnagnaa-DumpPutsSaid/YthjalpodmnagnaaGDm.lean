import Derived.Test.YthjalpodmnagnaaAbLib
import Derived.Test.YthjalpodmnagnaaProg
namespace Go.Ab
open Go.Proofs
set_option linter.unusedVariables false
structure T_api_Alt where
  Kind : Int
  Chan : Int
  Val : Int
  Slot : Int
  Goto : Int
abbrev T_api_Alt.enc (x : T_api_Alt) : List D := [.int .i64 x.Kind, .int .i64 x.Chan, .int .i64 x.Val, .int .i64 x.Slot, .int .i64 x.Goto]
theorem T_api_Alt.enc_len (x : T_api_Alt) : (T_api_Alt.enc x).length = 5 := rfl
abbrev T_api_Alt.pvs (x : T_api_Alt) : List PV := [i64 x.Kind, i64 x.Chan, i64 x.Val, i64 x.Slot, i64 x.Goto]
structure T_api_Proc where
  Def : Int
  At : Int
  Vars : (List Int)
  Fuel : Int
  Mode : Int
  Chan : Int
  Val : Int
  Slot : Int
  Until : Int
  Since : Int
  Alts : (List T_api_Alt)
abbrev T_api_Proc.enc (x : T_api_Proc) : List D := [.int .i64 x.Def, .int .i64 x.At, .list false (x.Vars).length (encL (eInt .i64) x.Vars), .int .i64 x.Fuel, .int .i64 x.Mode, .int .i64 x.Chan, .int .i64 x.Val, .int .i64 x.Slot, .int .i64 x.Until, .int .i64 x.Since, .list false (x.Alts).length (encL T_api_Alt.enc x.Alts)]
theorem T_api_Proc.enc_len (x : T_api_Proc) : (T_api_Proc.enc x).length = 11 := rfl
abbrev T_api_Proc.pvs (x : T_api_Proc) : List PV := [i64 x.Def, i64 x.At, lv (eInt .i64) x.Vars, i64 x.Fuel, i64 x.Mode, i64 x.Chan, i64 x.Val, i64 x.Slot, i64 x.Until, i64 x.Since, lv T_api_Alt.enc x.Alts]
structure T_api_State where
  Now : Int
  Since : Int
  Halt : Int
  Fault : Int
  Who : Int
  Procs : (List T_api_Proc)
  Out : (List Int)
abbrev T_api_State.enc (x : T_api_State) : List D := [.int .i64 x.Now, .int .i64 x.Since, .int .i64 x.Halt, .int .i64 x.Fault, .int .i64 x.Who, .list false (x.Procs).length (encL T_api_Proc.enc x.Procs), .list false (x.Out).length (encL (eInt .i64) x.Out)]
theorem T_api_State.enc_len (x : T_api_State) : (T_api_State.enc x).length = 7 := rfl
abbrev T_api_State.pvs (x : T_api_State) : List PV := [i64 x.Now, i64 x.Since, i64 x.Halt, i64 x.Fault, i64 x.Who, lv T_api_Proc.enc x.Procs, lv (eInt .i64) x.Out]
structure T_wire_Writer where
  s : (List Int)
abbrev T_wire_Writer.enc (x : T_wire_Writer) : List D := [.list false (x.s).length (encL (eInt .u8) x.s)]
theorem T_wire_Writer.enc_len (x : T_wire_Writer) : (T_wire_Writer.enc x).length = 1 := rfl
abbrev T_wire_Writer.pvs (x : T_wire_Writer) : List PV := [lv (eInt .u8) x.s]
structure T_wire_Reader where
  s : ByteArray
  e : Int
abbrev T_wire_Reader.enc (x : T_wire_Reader) : List D := [.str x.s, .int .i64 x.e]
theorem T_wire_Reader.enc_len (x : T_wire_Reader) : (T_wire_Reader.enc x).length = 2 := rfl
abbrev T_wire_Reader.pvs (x : T_wire_Reader) : List PV := [sv x.s, i64 x.e]
structure T_retraceref30_Got where
  S : T_api_State
  E : Int
abbrev T_retraceref30_Got.enc (x : T_retraceref30_Got) : List D := [.int .i64 x.S.Now, .int .i64 x.S.Since, .int .i64 x.S.Halt, .int .i64 x.S.Fault, .int .i64 x.S.Who, .list false (x.S.Procs).length (encL T_api_Proc.enc x.S.Procs), .list false (x.S.Out).length (encL (eInt .i64) x.S.Out), .int .i64 x.E]
theorem T_retraceref30_Got.enc_len (x : T_retraceref30_Got) : (T_retraceref30_Got.enc x).length = 8 := rfl
abbrev T_retraceref30_Got.pvs (x : T_retraceref30_Got) : List PV := [i64 x.S.Now, i64 x.S.Since, i64 x.S.Halt, i64 x.S.Fault, i64 x.S.Who, lv T_api_Proc.enc x.S.Procs, lv (eInt .i64) x.S.Out, i64 x.E]
structure T_retraceref03_Reader where
  S : ByteArray
  Bad : Int
abbrev T_retraceref03_Reader.enc (x : T_retraceref03_Reader) : List D := [.str x.S, .int .i64 x.Bad]
theorem T_retraceref03_Reader.enc_len (x : T_retraceref03_Reader) : (T_retraceref03_Reader.enc x).length = 2 := rfl
abbrev T_retraceref03_Reader.pvs (x : T_retraceref03_Reader) : List PV := [sv x.S, i64 x.Bad]
structure T_retraceref01_Got where
  U : Int
  Next : Int
  E : Int
abbrev T_retraceref01_Got.enc (x : T_retraceref01_Got) : List D := [.int .u64 x.U, .int .i64 x.Next, .int .i64 x.E]
theorem T_retraceref01_Got.enc_len (x : T_retraceref01_Got) : (T_retraceref01_Got.enc x).length = 3 := rfl
abbrev T_retraceref01_Got.pvs (x : T_retraceref01_Got) : List PV := [u64 x.U, i64 x.Next, i64 x.E]

/- retracelaw30_large -/
noncomputable def F_retracelaw30_large_J2 (x33 : Int) (x49 : Bool) : Option ((Int) ⊕ (Bool)) :=
  cond x49 ((some true).map Sum.inr) (some (.inl (w64 (x33 + 1))))
noncomputable def F_retracelaw30_large_L3 (p0 : T_api_State) (x33 : Int) : Option ((Int) ⊕ (Bool)) :=
  cond (decide (x33 < ((p0.Procs).length : Int))) ((lAt p0.Procs x33).bind fun y53 => cond (decide (60 < ((y53.Vars).length : Int))) (F_retracelaw30_large_J2 x33 true) ((lAt p0.Procs x33).bind fun y55 => F_retracelaw30_large_J2 x33 (decide (60 < ((y55.Alts).length : Int))))) ((some false).map Sum.inr)
noncomputable def F_retracelaw30_large_J1 (p0 : T_api_State) (x6 : Bool) : Option (Bool) :=
  cond x6 (some true) (Loop (fun s : (Int) => F_retracelaw30_large_L3 p0 s) 0)
noncomputable def F_retracelaw30_large (p0 : T_api_State) : Option (Bool) :=
  cond (decide (20 < ((p0.Procs).length : Int))) (F_retracelaw30_large_J1 p0 true) (F_retracelaw30_large_J1 p0 (decide (200 < ((p0.Out).length : Int))))
/- vint_Zig -/
noncomputable def F_vint_Zig (p0 : Int) : Option (Int) :=
  some (bits .xor .u64 (wu64 ((wu64 p0) * 2)) (wu64 (Int.fdiv p0 9223372036854775808)))
/- vint_Size -/
noncomputable def F_vint_Size_L1 (x9 : Int) (x10 : Int) : Option ((Int × Int) ⊕ (Int)) :=
  cond (decide (128 ≤ x9)) (some (.inl ((Int.fdiv x9 128), (w64 (x10 + 1))))) ((some x10).map Sum.inr)
noncomputable def F_vint_Size (p0 : Int) : Option (Int) :=
  Loop (fun s : (Int × Int) => F_vint_Size_L1 s.1 s.2) (p0, 1)
/- vint_Put -/
noncomputable def F_vint_Put_L1 (x17 : Int) (x18 : (List Int)) : Option ((Int × (List Int)) ⊕ (ByteArray)) :=
  cond (decide (128 ≤ x17)) (grd (((x18).length + ([(bits .or .u8 (wu8 x17) 128)]).length) * 1 ≤ 140737488355328) <| some (.inl ((Int.fdiv x17 128), (x18 ++ [(bits .or .u8 (wu8 x17) 128)])))) ((grd (((x18).length + ([(wu8 x17)]).length) * 1 ≤ 140737488355328) <| some (strOfNums (x18 ++ [(wu8 x17)]))).map Sum.inr)
noncomputable def F_vint_Put (p0 : ByteArray) (p1 : Int) : Option (ByteArray) :=
  (F_vint_Size p1).bind fun y3 => grd ((0 : Int) ≤ 0 ∧ 0 ≤ (w64 ((p0.size : Int) + y3)) ∧ (w64 ((p0.size : Int) + y3)) ≤ 281474976710656 ∧ (1 : Int) * (w64 ((p0.size : Int) + y3)) ≤ 281474976710656) <| grd (((([] : List Int)).length + p0.size) * 1 ≤ 140737488355328) <| Loop (fun s : (Int × (List Int)) => F_vint_Put_L1 s.1 s.2) (p1, (([] : List Int) ++ (sB p0)))
/- vint_PutInt -/
noncomputable def F_vint_PutInt (p0 : ByteArray) (p1 : Int) : Option (ByteArray) :=
  (F_vint_Zig p1).bind fun y3 => (F_vint_Put p0 y3).bind fun y4 => some y4
/- wire_Writer_add -/
noncomputable def F_wire_Writer_add (p1 : ByteArray) (o0 : T_wire_Writer) : Option (T_wire_Writer) :=
  grd (((o0.s).length + p1.size) * 1 ≤ 140737488355328) <| some (⟨(o0.s ++ (sB p1))⟩ : T_wire_Writer)
/- wire_Writer_Int -/
noncomputable def F_wire_Writer_Int (p1 : Int) (o0 : T_wire_Writer) : Option (T_wire_Writer) :=
  (F_vint_PutInt (⟨#[]⟩ : ByteArray) p1).bind fun y1 => (F_wire_Writer_add y1 o0).bind fun y2 => some y2
/- dump_writer_ints -/
noncomputable def F_dump_writer_ints_L1 (o2 : (List Int)) (x1 : Int) (x2 : (List Int)) : Option ((Int × (List Int)) ⊕ (T_wire_Writer)) :=
  cond (decide (x1 < ((o2).length : Int))) ((lAt o2 x1).bind fun y11 => (F_wire_Writer_Int y11 (⟨x2⟩ : T_wire_Writer)).bind fun y12 => some (.inl ((w64 (x1 + 1)), y12.s))) ((some (⟨x2⟩ : T_wire_Writer)).map Sum.inr)
noncomputable def F_dump_writer_ints (o0 : T_wire_Writer) (o2 : (List Int)) : Option (T_wire_Writer) :=
  Loop (fun s : (Int × (List Int)) => F_dump_writer_ints_L1 o2 s.1 s.2) (0, o0.s)
/- wire_Writer_Num -/
noncomputable def F_wire_Writer_Num (p1 : Int) (o0 : T_wire_Writer) : Option (T_wire_Writer) :=
  (F_vint_Put (⟨#[]⟩ : ByteArray) p1).bind fun y1 => (F_wire_Writer_add y1 o0).bind fun y2 => some y2
/- wire_Writer_Ints -/
noncomputable def F_wire_Writer_Ints_L1 (p1 : (List Int)) (x3 : Int) (x4 : (List Int)) : Option ((Int × (List Int)) ⊕ (T_wire_Writer)) :=
  cond (decide (x3 < ((p1).length : Int))) ((lAt p1 x3).bind fun y13 => (F_wire_Writer_Int y13 (⟨x4⟩ : T_wire_Writer)).bind fun y14 => some (.inl ((w64 (x3 + 1)), y14.s))) ((some (⟨x4⟩ : T_wire_Writer)).map Sum.inr)
noncomputable def F_wire_Writer_Ints (p1 : (List Int)) (o0 : T_wire_Writer) : Option (T_wire_Writer) :=
  (F_wire_Writer_Num (wu64 ((p1).length : Int)) o0).bind fun y2 => Loop (fun s : (Int × (List Int)) => F_wire_Writer_Ints_L1 p1 s.1 s.2) (0, y2.s)
/- dump_writer_proc -/
noncomputable def F_dump_writer_proc_L1 (p1 : T_api_Proc) (x9 : Int) (x10 : (List Int)) : Option ((Int × (List Int)) ⊕ (T_wire_Writer)) :=
  cond (decide (x9 < ((p1.Alts).length : Int))) ((lAt p1.Alts x9).bind fun y19 => (F_dump_writer_ints (⟨x10⟩ : T_wire_Writer) ([y19.Kind, y19.Chan, y19.Val, y19.Slot, y19.Goto])).bind fun y20 => some (.inl ((w64 (x9 + 1)), y20.s))) ((some (⟨x10⟩ : T_wire_Writer)).map Sum.inr)
noncomputable def F_dump_writer_proc (p1 : T_api_Proc) (o0 : T_wire_Writer) : Option (T_wire_Writer) :=
  (F_dump_writer_ints o0 ([p1.Def, p1.At])).bind fun y2 => (F_wire_Writer_Ints p1.Vars y2).bind fun y4 => (F_dump_writer_ints y4 ([p1.Fuel, p1.Mode, p1.Chan, p1.Val, p1.Slot, p1.Until, p1.Since])).bind fun y6 => (F_wire_Writer_Num (wu64 ((p1.Alts).length : Int)) y6).bind fun y8 => Loop (fun s : (Int × (List Int)) => F_dump_writer_proc_L1 p1 s.1 s.2) (0, y8.s)
/- wire_Writer_Bytes -/
noncomputable def F_wire_Writer_Bytes (o0 : T_wire_Writer) : Option (ByteArray) :=
  some (strOfNums o0.s)
/- dump_Put -/
noncomputable def F_dump_Put_L1 (p0_5 : (List T_api_Proc)) (o0 : (List Int)) (x19 : Int) (x20 : (List Int)) : Option ((Int × (List Int)) ⊕ (ByteArray)) :=
  cond (decide (x19 < ((p0_5).length : Int))) ((lAt p0_5 x19).bind fun y29 => (F_dump_writer_proc y29 (⟨x20⟩ : T_wire_Writer)).bind fun y30 => some (.inl ((w64 (x19 + 1)), y30.s))) (((F_wire_Writer_Ints o0 (⟨x20⟩ : T_wire_Writer)).bind fun y34 => (F_wire_Writer_Bytes y34).bind fun y36 => some y36).map Sum.inr)
noncomputable def F_dump_Put (p0_0 : Int) (p0_1 : Int) (p0_2 : Int) (p0_3 : Int) (p0_4 : Int) (p0_5 : (List T_api_Proc)) (o0 : (List Int)) : Option (ByteArray) :=
  (F_dump_writer_ints (⟨([] : List Int)⟩ : T_wire_Writer) ([p0_0, p0_1, p0_2, p0_3, p0_4])).bind fun y2 => (F_wire_Writer_Num (wu64 ((p0_5).length : Int)) y2).bind fun y4 => Loop (fun s : (Int × (List Int)) => F_dump_Put_L1 p0_5 o0 s.1 s.2) (0, y4.s)
/- wire_Open -/
noncomputable def F_wire_Open (p0 : ByteArray) : Option (T_wire_Reader) :=
  some (⟨p0, 0⟩ : T_wire_Reader)
/- vint_Get -/
noncomputable def F_vint_Get_J2 (x90 : Int) : Option (Int × Int × Int) :=
  some (0, 0, x90)
noncomputable def F_vint_Get_J3 (p1 : Int) (x95 : Int) (x96 : Int) (y135 : Int) (x156 : Bool) : Option ((Int × Int) ⊕ (Int × Int × Int)) :=
  cond x156 ((F_vint_Get_J2 3).map Sum.inr) (cond (decide (y135 < 128)) (grd ((0 : Int) ≤ (w64 (7 * x96))) <| (some ((bits .or .u64 x95 (wu64 ((wu64 y135) * 2 ^ (min (Int.toNat (w64 (7 * x96))) 64)))), (w64 ((w64 (p1 + x96)) + 1)), 0)).map Sum.inr) (grd ((0 : Int) ≤ (w64 (7 * x96))) <| some (.inl ((bits .or .u64 x95 (wu64 ((wu64 (bits .and .u8 y135 127)) * 2 ^ (min (Int.toNat (w64 (7 * x96))) 64)))), (w64 (x96 + 1))))))
noncomputable def F_vint_Get_J4 (p1 : Int) (x95 : Int) (x96 : Int) (y135 : Int) (x167 : Bool) : Option ((Int × Int) ⊕ (Int × Int × Int)) :=
  cond x167 (F_vint_Get_J3 p1 x95 x96 y135 x167) (cond (decide (0 < x96)) (F_vint_Get_J3 p1 x95 x96 y135 (y135 == 0)) (F_vint_Get_J3 p1 x95 x96 y135 false))
noncomputable def F_vint_Get_L5 (p0 : ByteArray) (p1 : Int) (x95 : Int) (x96 : Int) : Option ((Int × Int) ⊕ (Int × Int × Int)) :=
  cond (decide (x96 < (((sB (p0.extract (Int.toNat p1) (Int.toNat (p0.size : Int))))).length : Int))) ((lAt (sB (p0.extract (Int.toNat p1) (Int.toNat (p0.size : Int)))) x96).bind fun y135 => cond (x96 == 9) (F_vint_Get_J4 p1 x95 x96 y135 (decide (1 < y135))) (F_vint_Get_J4 p1 x95 x96 y135 false)) ((F_vint_Get_J2 2).map Sum.inr)
noncomputable def F_vint_Get_J1 (p0 : ByteArray) (p1 : Int) (x6 : Bool) : Option (Int × Int × Int) :=
  cond x6 (some (0, 0, 1)) (grd ((0 : Int) ≤ p1 ∧ p1 ≤ (p0.size : Int) ∧ (p0.size : Int) ≤ (p0.size : Int)) <| grd ((p0.extract (Int.toNat p1) (Int.toNat (p0.size : Int))).size ≤ 281474976710656) <| Loop (fun s : (Int × Int) => F_vint_Get_L5 p0 p1 s.1 s.2) (0, 0))
noncomputable def F_vint_Get (p0 : ByteArray) (p1 : Int) : Option (Int × Int × Int) :=
  cond (decide (p1 < 0)) (F_vint_Get_J1 p0 p1 true) (F_vint_Get_J1 p0 p1 (decide ((p0.size : Int) < p1)))
/- vint_Zag -/
noncomputable def F_vint_Zag (p0 : Int) : Option (Int) :=
  some (bits .xor .i64 (w64 (Int.fdiv p0 2)) (w64 (0 - (w64 (bits .and .u64 p0 1)))))
/- vint_GetInt -/
noncomputable def F_vint_GetInt (p0 : ByteArray) (p1 : Int) : Option (Int × Int × Int) :=
  (F_vint_Get p0 p1).bind fun y2 => (F_vint_Zag y2.1).bind fun y4 => some (y4, y2.2.1, y2.2.2)
/- wire_Reader_Int_1 -/
noncomputable def F_wire_Reader_Int_1 (p0 : ByteArray) (o0_0 : Int) : Option (Int × Int × Int) :=
  (F_vint_GetInt p0 0).bind fun y2 => some (y2.2.1, y2.2.2, y2.1)
/- wire_Reader_step -/
noncomputable def F_wire_Reader_step (o0 : T_wire_Reader) (o1_0 : Int) : Option (Bool × T_wire_Reader × Int) :=
  cond (o0.e != 0) (some (false, o0, o1_0)) ((F_wire_Reader_Int_1 o0.s o1_0).bind fun y4 => cond (y4.2.1 != 0) (some (false, (⟨o0.s, y4.2.1⟩ : T_wire_Reader), y4.2.2)) (grd ((0 : Int) ≤ y4.1 ∧ y4.1 ≤ (o0.s.size : Int) ∧ (o0.s.size : Int) ≤ (o0.s.size : Int)) <| some (true, (⟨(o0.s.extract (Int.toNat y4.1) (Int.toNat (o0.s.size : Int))), o0.e⟩ : T_wire_Reader), y4.2.2)))
/- wire_Reader_Int -/
noncomputable def F_wire_Reader_Int (o0 : T_wire_Reader) : Option (Int × T_wire_Reader) :=
  (F_wire_Reader_step o0 0).bind fun y2 => some (y2.2.2, y2.2.1)
/- dump_reader_into -/
noncomputable def F_dump_reader_into (o0 : T_wire_Reader) (o2 : T_api_State) : Option (T_wire_Reader × T_api_State) :=
  (F_wire_Reader_Int o0).bind fun y2 => (F_wire_Reader_Int y2.2).bind fun y4 => (F_wire_Reader_Int y4.2).bind fun y6 => (F_wire_Reader_Int y6.2).bind fun y8 => (F_wire_Reader_Int y8.2).bind fun y10 => some (y10.2, (⟨y2.1, y4.1, y6.1, y8.1, y10.1, o2.Procs, o2.Out⟩ : T_api_State))
/- wire_Reader_Upto_1 -/
noncomputable def F_wire_Reader_Upto_1_J1 (y2 : Int × Int × Int) (x11 : Bool) : Option (Int × Int × Int) :=
  cond x11 (some (0, 6, y2.1)) (some (y2.2.1, y2.2.2, y2.1))
noncomputable def F_wire_Reader_Upto_1 (p0 : ByteArray) (o0_0 : Int) (o1_0 : Int) : Option (Int × Int × Int) :=
  (F_vint_Get p0 0).bind fun y2 => cond (y2.2.2 == 0) (cond (decide (o1_0 < 0)) (F_wire_Reader_Upto_1_J1 y2 true) (F_wire_Reader_Upto_1_J1 y2 (decide ((wu64 o1_0) < y2.1)))) (F_wire_Reader_Upto_1_J1 y2 false)
/- wire_Reader_step_v2 -/
noncomputable def F_wire_Reader_step_v2 (o0 : T_wire_Reader) (o1_0 : Int) (o2_0 : Int) : Option (Bool × T_wire_Reader × Int) :=
  cond (o0.e != 0) (some (false, o0, o1_0)) ((F_wire_Reader_Upto_1 o0.s o1_0 o2_0).bind fun y4 => cond (y4.2.1 != 0) (some (false, (⟨o0.s, y4.2.1⟩ : T_wire_Reader), y4.2.2)) (grd ((0 : Int) ≤ y4.1 ∧ y4.1 ≤ (o0.s.size : Int) ∧ (o0.s.size : Int) ≤ (o0.s.size : Int)) <| some (true, (⟨(o0.s.extract (Int.toNat y4.1) (Int.toNat (o0.s.size : Int))), o0.e⟩ : T_wire_Reader), y4.2.2)))
/- wire_Reader_Upto -/
noncomputable def F_wire_Reader_Upto (p1 : Int) (o0 : T_wire_Reader) : Option (Int × T_wire_Reader) :=
  (F_wire_Reader_step_v2 o0 0 p1).bind fun y2 => cond (!y2.1) (some (0, y2.2.1)) (some ((w64 y2.2.2), y2.2.1))
/- wire_Reader_Err -/
noncomputable def F_wire_Reader_Err (o0 : T_wire_Reader) : Option (Int) :=
  some o0.e
/- dump_reader_into_v2 -/
noncomputable def F_dump_reader_into_v2 (o0 : T_wire_Reader) (o2 : T_api_Proc) : Option (T_wire_Reader × T_api_Proc) :=
  (F_wire_Reader_Int o0).bind fun y2 => (F_wire_Reader_Int y2.2).bind fun y4 => some (y4.2, (⟨y2.1, y4.1, o2.Vars, o2.Fuel, o2.Mode, o2.Chan, o2.Val, o2.Slot, o2.Until, o2.Since, o2.Alts⟩ : T_api_Proc))
/- wire_Reader_Ints -/
noncomputable def F_wire_Reader_Ints_J1 (x24 : ByteArray) (x25 : Int) (x26 : (List Int)) (x37 : Bool) : Option ((ByteArray × Int × (List Int)) ⊕ ((List Int) × T_wire_Reader)) :=
  cond x37 ((F_wire_Reader_Int (⟨x24, x25⟩ : T_wire_Reader)).bind fun y39 => grd (((x26).length + ([y39.1]).length) * 8 ≤ 140737488355328) <| some (.inl (y39.2.s, y39.2.e, (x26 ++ [y39.1])))) (((F_wire_Reader_Err (⟨x24, x25⟩ : T_wire_Reader)).bind fun y47 => cond (y47 != 0) (some (([] : List Int), (⟨x24, x25⟩ : T_wire_Reader))) (some (x26, (⟨x24, x25⟩ : T_wire_Reader)))).map Sum.inr)
noncomputable def F_wire_Reader_Ints_L2 (y2 : Int × T_wire_Reader) (x24 : ByteArray) (x25 : Int) (x26 : (List Int)) : Option ((ByteArray × Int × (List Int)) ⊕ ((List Int) × T_wire_Reader)) :=
  cond (decide (((x26).length : Int) < y2.1)) ((F_wire_Reader_Err (⟨x24, x25⟩ : T_wire_Reader)).bind fun y50 => F_wire_Reader_Ints_J1 x24 x25 x26 (y50 == 0)) (F_wire_Reader_Ints_J1 x24 x25 x26 false)
noncomputable def F_wire_Reader_Ints (p1 : Int) (o0 : T_wire_Reader) : Option ((List Int) × T_wire_Reader) :=
  (F_wire_Reader_Upto p1 o0).bind fun y2 => Loop (fun s : (ByteArray × Int × (List Int)) => F_wire_Reader_Ints_L2 y2 s.1 s.2.1 s.2.2) (y2.2.s, y2.2.e, ([] : (List Int)))
/- dump_reader_into_v3 -/
noncomputable def F_dump_reader_into_v3 (o0 : T_wire_Reader) (o2 : T_api_Proc) : Option (T_wire_Reader × T_api_Proc) :=
  (F_wire_Reader_Int o0).bind fun y2 => (F_wire_Reader_Int y2.2).bind fun y4 => (F_wire_Reader_Int y4.2).bind fun y6 => (F_wire_Reader_Int y6.2).bind fun y8 => (F_wire_Reader_Int y8.2).bind fun y10 => (F_wire_Reader_Int y10.2).bind fun y12 => (F_wire_Reader_Int y12.2).bind fun y14 => some (y14.2, (⟨o2.Def, o2.At, o2.Vars, y2.1, y4.1, y6.1, y8.1, y10.1, y12.1, y14.1, o2.Alts⟩ : T_api_Proc))
/- dump_reader_into_v4 -/
noncomputable def F_dump_reader_into_v4 (o0 : T_wire_Reader) (o2 : T_api_Alt) : Option (T_wire_Reader × T_api_Alt) :=
  (F_wire_Reader_Int o0).bind fun y2 => (F_wire_Reader_Int y2.2).bind fun y4 => (F_wire_Reader_Int y4.2).bind fun y6 => (F_wire_Reader_Int y6.2).bind fun y8 => (F_wire_Reader_Int y8.2).bind fun y10 => some (y10.2, (⟨y2.1, y4.1, y6.1, y8.1, y10.1⟩ : T_api_Alt))
/- dump_reader_proc_1 -/
noncomputable def F_dump_reader_proc_1 (o1 : T_wire_Reader) (o2 : T_api_Proc) : Option (T_wire_Reader × T_api_Proc) :=
  (F_dump_reader_into_v4 o1 (⟨0, 0, 0, 0, 0⟩ : T_api_Alt)).bind fun y2 => grd (((o2.Alts).length + ([y2.2]).length) * 40 ≤ 140737488355328) <| some (y2.1, (⟨o2.Def, o2.At, o2.Vars, o2.Fuel, o2.Mode, o2.Chan, o2.Val, o2.Slot, o2.Until, o2.Since, (o2.Alts ++ [y2.2])⟩ : T_api_Proc))
/- dump_reader_each_v2 -/
noncomputable def F_dump_reader_each_v2_J1 (x3 : Int) (x4 : ByteArray) (x5 : Int) (x6 : Int) (x7 : Int) (x8 : Int) (x9 : Int) (x10 : Int) (x11 : Int) (x12 : Int) (x13 : Int) (x14 : Int) (x15 : (List Int)) (x16 : (List T_api_Alt)) (x27 : Bool) : Option ((Int × ByteArray × Int × Int × Int × Int × Int × Int × Int × Int × Int × Int × (List Int) × (List T_api_Alt)) ⊕ (T_wire_Reader × T_api_Proc)) :=
  cond x27 ((F_dump_reader_proc_1 (⟨x4, x5⟩ : T_wire_Reader) (⟨x6, x7, x15, x8, x9, x10, x11, x12, x13, x14, x16⟩ : T_api_Proc)).bind fun y30 => some (.inl ((w64 (x3 + 1)), y30.1.s, y30.1.e, y30.2.Def, y30.2.At, y30.2.Fuel, y30.2.Mode, y30.2.Chan, y30.2.Val, y30.2.Slot, y30.2.Until, y30.2.Since, y30.2.Vars, y30.2.Alts))) ((some ((⟨x4, x5⟩ : T_wire_Reader), (⟨x6, x7, x15, x8, x9, x10, x11, x12, x13, x14, x16⟩ : T_api_Proc))).map Sum.inr)
noncomputable def F_dump_reader_each_v2_L2 (y2 : Int × T_wire_Reader) (x3 : Int) (x4 : ByteArray) (x5 : Int) (x6 : Int) (x7 : Int) (x8 : Int) (x9 : Int) (x10 : Int) (x11 : Int) (x12 : Int) (x13 : Int) (x14 : Int) (x15 : (List Int)) (x16 : (List T_api_Alt)) : Option ((Int × ByteArray × Int × Int × Int × Int × Int × Int × Int × Int × Int × Int × (List Int) × (List T_api_Alt)) ⊕ (T_wire_Reader × T_api_Proc)) :=
  cond (decide (x3 < y2.1)) ((F_wire_Reader_Err (⟨x4, x5⟩ : T_wire_Reader)).bind fun y34 => F_dump_reader_each_v2_J1 x3 x4 x5 x6 x7 x8 x9 x10 x11 x12 x13 x14 x15 x16 (y34 == 0)) (F_dump_reader_each_v2_J1 x3 x4 x5 x6 x7 x8 x9 x10 x11 x12 x13 x14 x15 x16 false)
noncomputable def F_dump_reader_each_v2 (o0 : T_wire_Reader) (o2 : T_api_Proc) : Option (T_wire_Reader × T_api_Proc) :=
  (F_wire_Reader_Upto 4096 o0).bind fun y2 => Loop (fun s : (Int × ByteArray × Int × Int × Int × Int × Int × Int × Int × Int × Int × Int × (List Int) × (List T_api_Alt)) => F_dump_reader_each_v2_L2 y2 s.1 s.2.1 s.2.2.1 s.2.2.2.1 s.2.2.2.2.1 s.2.2.2.2.2.1 s.2.2.2.2.2.2.1 s.2.2.2.2.2.2.2.1 s.2.2.2.2.2.2.2.2.1 s.2.2.2.2.2.2.2.2.2.1 s.2.2.2.2.2.2.2.2.2.2.1 s.2.2.2.2.2.2.2.2.2.2.2.1 s.2.2.2.2.2.2.2.2.2.2.2.2.1 s.2.2.2.2.2.2.2.2.2.2.2.2.2) (0, y2.2.s, y2.2.e, o2.Def, o2.At, o2.Fuel, o2.Mode, o2.Chan, o2.Val, o2.Slot, o2.Until, o2.Since, o2.Vars, o2.Alts)
/- dump_reader_proc -/
noncomputable def F_dump_reader_proc (o0 : T_wire_Reader) : Option (T_api_Proc × T_wire_Reader) :=
  (F_dump_reader_into_v2 o0 (⟨0, 0, ([] : List Int), 0, 0, 0, 0, 0, 0, 0, ([] : List T_api_Alt)⟩ : T_api_Proc)).bind fun y2 => (F_wire_Reader_Ints 4096 y2.1).bind fun y4 => (F_dump_reader_into_v3 y4.2 (⟨y2.2.Def, y2.2.At, y4.1, y2.2.Fuel, y2.2.Mode, y2.2.Chan, y2.2.Val, y2.2.Slot, y2.2.Until, y2.2.Since, y2.2.Alts⟩ : T_api_Proc)).bind fun y6 => (F_dump_reader_each_v2 y6.1 y6.2).bind fun y8 => some (y8.2, y8.1)
/- dump_Read_1 -/
noncomputable def F_dump_Read_1 (o0 : T_api_State) (o4 : T_wire_Reader) : Option (T_api_State × T_wire_Reader) :=
  (F_dump_reader_proc o4).bind fun y1 => grd (((o0.Procs).length + ([y1.1]).length) * 120 ≤ 140737488355328) <| some ((⟨o0.Now, o0.Since, o0.Halt, o0.Fault, o0.Who, (o0.Procs ++ [y1.1]), o0.Out⟩ : T_api_State), y1.2)
/- dump_reader_each -/
noncomputable def F_dump_reader_each_J1 (x3 : Int) (x4 : ByteArray) (x5 : Int) (x6 : Int) (x7 : Int) (x8 : Int) (x9 : Int) (x10 : Int) (x11 : (List T_api_Proc)) (x12 : (List Int)) (x23 : Bool) : Option ((Int × ByteArray × Int × Int × Int × Int × Int × Int × (List T_api_Proc) × (List Int)) ⊕ (T_wire_Reader × T_api_State)) :=
  cond x23 ((F_dump_Read_1 (⟨x6, x7, x8, x9, x10, x11, x12⟩ : T_api_State) (⟨x4, x5⟩ : T_wire_Reader)).bind fun y26 => some (.inl ((w64 (x3 + 1)), y26.2.s, y26.2.e, y26.1.Now, y26.1.Since, y26.1.Halt, y26.1.Fault, y26.1.Who, y26.1.Procs, y26.1.Out))) ((some ((⟨x4, x5⟩ : T_wire_Reader), (⟨x6, x7, x8, x9, x10, x11, x12⟩ : T_api_State))).map Sum.inr)
noncomputable def F_dump_reader_each_L2 (y2 : Int × T_wire_Reader) (x3 : Int) (x4 : ByteArray) (x5 : Int) (x6 : Int) (x7 : Int) (x8 : Int) (x9 : Int) (x10 : Int) (x11 : (List T_api_Proc)) (x12 : (List Int)) : Option ((Int × ByteArray × Int × Int × Int × Int × Int × Int × (List T_api_Proc) × (List Int)) ⊕ (T_wire_Reader × T_api_State)) :=
  cond (decide (x3 < y2.1)) ((F_wire_Reader_Err (⟨x4, x5⟩ : T_wire_Reader)).bind fun y30 => F_dump_reader_each_J1 x3 x4 x5 x6 x7 x8 x9 x10 x11 x12 (y30 == 0)) (F_dump_reader_each_J1 x3 x4 x5 x6 x7 x8 x9 x10 x11 x12 false)
noncomputable def F_dump_reader_each (o0 : T_wire_Reader) (o1 : T_api_State) : Option (T_wire_Reader × T_api_State) :=
  (F_wire_Reader_Upto 4096 o0).bind fun y2 => Loop (fun s : (Int × ByteArray × Int × Int × Int × Int × Int × Int × (List T_api_Proc) × (List Int)) => F_dump_reader_each_L2 y2 s.1 s.2.1 s.2.2.1 s.2.2.2.1 s.2.2.2.2.1 s.2.2.2.2.2.1 s.2.2.2.2.2.2.1 s.2.2.2.2.2.2.2.1 s.2.2.2.2.2.2.2.2.1 s.2.2.2.2.2.2.2.2.2) (0, y2.2.s, y2.2.e, o1.Now, o1.Since, o1.Halt, o1.Fault, o1.Who, o1.Procs, o1.Out)
/- dump_Read -/
noncomputable def F_dump_Read (o0 : T_wire_Reader) : Option (T_api_State × T_wire_Reader) :=
  (F_dump_reader_into o0 (⟨0, 0, 0, 0, 0, ([] : List T_api_Proc), ([] : List Int)⟩ : T_api_State)).bind fun y2 => (F_dump_reader_each y2.1 y2.2).bind fun y4 => (F_wire_Reader_Ints 1048576 y4.1).bind fun y6 => (F_wire_Reader_Err y6.2).bind fun y11 => cond (y11 != 0) (some ((⟨0, 0, 0, 0, 0, ([] : List T_api_Proc), ([] : List Int)⟩ : T_api_State), y6.2)) (some ((⟨y4.2.Now, y4.2.Since, y4.2.Halt, y4.2.Fault, y4.2.Who, y4.2.Procs, y6.1⟩ : T_api_State), y6.2))
/- wire_Reader_Left -/
noncomputable def F_wire_Reader_Left (o0 : T_wire_Reader) : Option (Int) :=
  some (o0.s.size : Int)
/- wire_Reader_End -/
noncomputable def F_wire_Reader_End_J1 (y10 : Int) (x13 : Bool) : Option (Int) :=
  cond x13 (some y10) (some 3)
noncomputable def F_wire_Reader_End (o0 : T_wire_Reader) : Option (Int) :=
  (F_wire_Reader_Err o0).bind fun y10 => cond (y10 != 0) (F_wire_Reader_End_J1 y10 true) ((F_wire_Reader_Left o0).bind fun y16 => F_wire_Reader_End_J1 y10 (y16 == 0))
/- dump_Get -/
noncomputable def F_dump_Get (p0 : ByteArray) : Option (T_api_State × Int) :=
  (F_wire_Open p0).bind fun y2 => (F_dump_Read y2).bind fun y4 => (F_wire_Reader_End y4.2).bind fun y9 => cond (y9 != 0) (some ((⟨0, 0, 0, 0, 0, ([] : List T_api_Proc), ([] : List Int)⟩ : T_api_State), y9)) (some (y4.1, 0))
/- dump_Put_v2 -/
noncomputable def F_dump_Put_v2_L1 (p0 : T_api_State) (x19 : Int) (x20 : (List Int)) : Option ((Int × (List Int)) ⊕ (ByteArray)) :=
  cond (decide (x19 < ((p0.Procs).length : Int))) ((lAt p0.Procs x19).bind fun y29 => (F_dump_writer_proc y29 (⟨x20⟩ : T_wire_Writer)).bind fun y30 => some (.inl ((w64 (x19 + 1)), y30.s))) (((F_wire_Writer_Ints p0.Out (⟨x20⟩ : T_wire_Writer)).bind fun y34 => (F_wire_Writer_Bytes y34).bind fun y36 => some y36).map Sum.inr)
noncomputable def F_dump_Put_v2 (p0 : T_api_State) : Option (ByteArray) :=
  (F_dump_writer_ints (⟨([] : List Int)⟩ : T_wire_Writer) ([p0.Now, p0.Since, p0.Halt, p0.Fault, p0.Who])).bind fun y2 => (F_wire_Writer_Num (wu64 ((p0.Procs).length : Int)) y2).bind fun y4 => Loop (fun s : (Int × (List Int)) => F_dump_Put_v2_L1 p0 s.1 s.2) (0, y4.s)
/- retracelaw30_live -/
noncomputable def F_retracelaw30_live_J1 (x9 : Bool) : Option (Bool) :=
  some x9
noncomputable def F_retracelaw30_live  : Option (Bool) :=
  (F_dump_Put 3 0 0 0 0 ([] : List T_api_Proc) ([4])).bind fun y3 => (F_dump_Get y3).bind fun y4 => (F_dump_Put_v2 (⟨0, 0, 0, 0, 0, ([] : (List T_api_Proc)), ([] : (List Int))⟩ : T_api_State)).bind fun y10 => cond (y10.toList == (⟨#[0, 0, 0, 0, 0, 0, 0]⟩ : ByteArray).toList) (cond (y4.1.Now == 3) (cond (((y4.1.Out).length : Int) == 1) (F_retracelaw30_live_J1 (y4.2 == 0)) (F_retracelaw30_live_J1 false)) (F_retracelaw30_live_J1 false)) (F_retracelaw30_live_J1 false)
/- retraceref01_Zig -/
noncomputable def F_retraceref01_Zig (p0 : Int) : Option (Int) :=
  cond (decide (p0 < 0)) (some (wu64 ((wu64 ((wu64 (w64 (0 - (w64 (p0 + 1))))) * 2)) + 1))) (some (wu64 ((wu64 p0) * 2)))
/- retraceref01_Num -/
noncomputable def F_retraceref01_Num_B (self : Int → Option (ByteArray)) (p0 : Int) : Option (ByteArray) :=
  cond (decide (p0 < 128)) (some (strOfNums ([(wu8 p0)]))) ((self (wu64 (Int.tdiv p0 128))).bind fun y5 => grd ((strOfNums ([(wu8 ((wu8 (Int.tmod p0 128)) + 128))])).size + y5.size ≤ 9223372036854775807) <| some ((strOfNums ([(wu8 ((wu8 (Int.tmod p0 128)) + 128))])) ++ y5))
noncomputable def F_retraceref01_Num_N : Nat → Int → Option (ByteArray)
  | 0 => fun _ => none
  | n + 1 => F_retraceref01_Num_B (F_retraceref01_Num_N n)
noncomputable def F_retraceref01_Num (p0 : Int) : Option (ByteArray) :=
  lim fun n => F_retraceref01_Num_N n p0
/- retraceref03_Int -/
noncomputable def F_retraceref03_Int (p0 : Int) : Option (ByteArray) :=
  (F_retraceref01_Zig p0).bind fun y3 => (F_retraceref01_Num y3).bind fun y4 => some y4
/- retraceref03_Ints -/
noncomputable def F_retraceref03_Ints_L1 (p0 : (List Int)) (x17 : ByteArray) (x18 : Int) : Option ((ByteArray × Int) ⊕ (ByteArray)) :=
  cond (decide (x18 < ((p0).length : Int))) ((lAt p0 x18).bind fun y26 => (F_retraceref03_Int y26).bind fun y27 => grd (x17.size + y27.size ≤ 9223372036854775807) <| some (.inl ((x17 ++ y27), (w64 (x18 + 1))))) ((some x17).map Sum.inr)
noncomputable def F_retraceref03_Ints (p0 : (List Int)) : Option (ByteArray) :=
  (F_retraceref01_Num (wu64 ((p0).length : Int))).bind fun y2 => Loop (fun s : (ByteArray × Int) => F_retraceref03_Ints_L1 p0 s.1 s.2) (y2, 0)
/- retraceref30_proc -/
noncomputable def F_retraceref30_proc_L1 (p0 : T_api_Proc) (x75 : ByteArray) (x76 : Int) : Option ((ByteArray × Int) ⊕ (ByteArray)) :=
  cond (decide (x76 < ((p0.Alts).length : Int))) ((lAt p0.Alts x76).bind fun y94 => (F_retraceref03_Int y94.Kind).bind fun y95 => grd (x75.size + y95.size ≤ 9223372036854775807) <| (F_retraceref03_Int y94.Chan).bind fun y97 => grd ((x75 ++ y95).size + y97.size ≤ 9223372036854775807) <| (F_retraceref03_Int y94.Val).bind fun y99 => grd (((x75 ++ y95) ++ y97).size + y99.size ≤ 9223372036854775807) <| (F_retraceref03_Int y94.Slot).bind fun y101 => grd ((((x75 ++ y95) ++ y97) ++ y99).size + y101.size ≤ 9223372036854775807) <| (F_retraceref03_Int y94.Goto).bind fun y103 => grd (((((x75 ++ y95) ++ y97) ++ y99) ++ y101).size + y103.size ≤ 9223372036854775807) <| some (.inl ((((((x75 ++ y95) ++ y97) ++ y99) ++ y101) ++ y103), (w64 (x76 + 1))))) ((some x75).map Sum.inr)
noncomputable def F_retraceref30_proc (p0 : T_api_Proc) : Option (ByteArray) :=
  (F_retraceref03_Int p0.Def).bind fun y20 => (F_retraceref03_Int p0.At).bind fun y21 => grd (y20.size + y21.size ≤ 9223372036854775807) <| (F_retraceref03_Ints p0.Vars).bind fun y23 => grd ((y20 ++ y21).size + y23.size ≤ 9223372036854775807) <| (F_retraceref03_Int p0.Fuel).bind fun y25 => grd (((y20 ++ y21) ++ y23).size + y25.size ≤ 9223372036854775807) <| (F_retraceref03_Int p0.Mode).bind fun y27 => grd ((((y20 ++ y21) ++ y23) ++ y25).size + y27.size ≤ 9223372036854775807) <| (F_retraceref03_Int p0.Chan).bind fun y29 => grd (((((y20 ++ y21) ++ y23) ++ y25) ++ y27).size + y29.size ≤ 9223372036854775807) <| (F_retraceref03_Int p0.Val).bind fun y31 => grd ((((((y20 ++ y21) ++ y23) ++ y25) ++ y27) ++ y29).size + y31.size ≤ 9223372036854775807) <| (F_retraceref03_Int p0.Slot).bind fun y33 => grd (((((((y20 ++ y21) ++ y23) ++ y25) ++ y27) ++ y29) ++ y31).size + y33.size ≤ 9223372036854775807) <| (F_retraceref03_Int p0.Until).bind fun y35 => grd ((((((((y20 ++ y21) ++ y23) ++ y25) ++ y27) ++ y29) ++ y31) ++ y33).size + y35.size ≤ 9223372036854775807) <| (F_retraceref03_Int p0.Since).bind fun y37 => grd (((((((((y20 ++ y21) ++ y23) ++ y25) ++ y27) ++ y29) ++ y31) ++ y33) ++ y35).size + y37.size ≤ 9223372036854775807) <| (F_retraceref01_Num (wu64 ((p0.Alts).length : Int))).bind fun y41 => grd ((((((((((y20 ++ y21) ++ y23) ++ y25) ++ y27) ++ y29) ++ y31) ++ y33) ++ y35) ++ y37).size + y41.size ≤ 9223372036854775807) <| Loop (fun s : (ByteArray × Int) => F_retraceref30_proc_L1 p0 s.1 s.2) (((((((((((y20 ++ y21) ++ y23) ++ y25) ++ y27) ++ y29) ++ y31) ++ y33) ++ y35) ++ y37) ++ y41), 0)
/- retraceref30_Put -/
noncomputable def F_retraceref30_Put_L1 (p0 : T_api_State) (x37 : ByteArray) (x38 : Int) : Option ((ByteArray × Int) ⊕ (ByteArray)) :=
  cond (decide (x38 < ((p0.Procs).length : Int))) ((lAt p0.Procs x38).bind fun y46 => (F_retraceref30_proc y46).bind fun y47 => grd (x37.size + y47.size ≤ 9223372036854775807) <| some (.inl ((x37 ++ y47), (w64 (x38 + 1))))) (((F_retraceref03_Ints p0.Out).bind fun y53 => grd (x37.size + y53.size ≤ 9223372036854775807) <| some (x37 ++ y53)).map Sum.inr)
noncomputable def F_retraceref30_Put (p0 : T_api_State) : Option (ByteArray) :=
  (F_retraceref03_Int p0.Now).bind fun y12 => (F_retraceref03_Int p0.Since).bind fun y13 => grd (y12.size + y13.size ≤ 9223372036854775807) <| (F_retraceref03_Int p0.Halt).bind fun y15 => grd ((y12 ++ y13).size + y15.size ≤ 9223372036854775807) <| (F_retraceref03_Int p0.Fault).bind fun y17 => grd (((y12 ++ y13) ++ y15).size + y17.size ≤ 9223372036854775807) <| (F_retraceref03_Int p0.Who).bind fun y19 => grd ((((y12 ++ y13) ++ y15) ++ y17).size + y19.size ≤ 9223372036854775807) <| (F_retraceref01_Num (wu64 ((p0.Procs).length : Int))).bind fun y21 => grd (((((y12 ++ y13) ++ y15) ++ y17) ++ y19).size + y21.size ≤ 9223372036854775807) <| Loop (fun s : (ByteArray × Int) => F_retraceref30_Put_L1 p0 s.1 s.2) ((((((y12 ++ y13) ++ y15) ++ y17) ++ y19) ++ y21), 0)
/- retraceref03_Same -/
noncomputable def F_retraceref03_Same_L1 (p0 : (List Int)) (p1 : (List Int)) (x22 : Int) : Option ((Int) ⊕ (Bool)) :=
  cond (decide (x22 < ((p0).length : Int))) ((lAt p0 x22).bind fun y34 => (lAt p1 x22).bind fun y35 => cond (y34 != y35) ((some false).map Sum.inr) (some (.inl (w64 (x22 + 1))))) ((some true).map Sum.inr)
noncomputable def F_retraceref03_Same (p0 : (List Int)) (p1 : (List Int)) : Option (Bool) :=
  cond (((p0).length : Int) != ((p1).length : Int)) (some false) (Loop (fun s : (Int) => F_retraceref03_Same_L1 p0 p1 s) 0)
/- retraceref22_Alts -/
noncomputable def F_retraceref22_Alts_L1 (p0 : (List T_api_Alt)) (p1 : (List T_api_Alt)) (x22 : Int) : Option ((Int) ⊕ (Bool)) :=
  cond (decide (x22 < ((p0).length : Int))) ((lAt p0 x22).bind fun y34 => (lAt p1 x22).bind fun y35 => cond (!((y34.Kind == y35.Kind) && ((y34.Chan == y35.Chan) && ((y34.Val == y35.Val) && ((y34.Slot == y35.Slot) && ((y34.Goto == y35.Goto) && true)))))) ((some false).map Sum.inr) (some (.inl (w64 (x22 + 1))))) ((some true).map Sum.inr)
noncomputable def F_retraceref22_Alts (p0 : (List T_api_Alt)) (p1 : (List T_api_Alt)) : Option (Bool) :=
  cond (((p0).length : Int) != ((p1).length : Int)) (some false) (Loop (fun s : (Int) => F_retraceref22_Alts_L1 p0 p1 s) 0)
/- retraceref22_Same -/
noncomputable def F_retraceref22_Same_J2 (x26 : Bool) : Option (Bool) :=
  some x26
noncomputable def F_retraceref22_Same_J1 (p0 : T_api_Proc) (p1 : T_api_Proc) (x18 : Bool) : Option (Bool) :=
  cond x18 (some false) (cond (p0.Slot == p1.Slot) (cond (p0.Until == p1.Until) (cond (p0.Since == p1.Since) ((F_retraceref03_Same p0.Vars p1.Vars).bind fun y30 => cond y30 ((F_retraceref22_Alts p0.Alts p1.Alts).bind fun y32 => F_retraceref22_Same_J2 y32) (F_retraceref22_Same_J2 false)) (F_retraceref22_Same_J2 false)) (F_retraceref22_Same_J2 false)) (F_retraceref22_Same_J2 false))
noncomputable def F_retraceref22_Same (p0 : T_api_Proc) (p1 : T_api_Proc) : Option (Bool) :=
  cond (p0.Def != p1.Def) (F_retraceref22_Same_J1 p0 p1 true) (cond (p0.At != p1.At) (F_retraceref22_Same_J1 p0 p1 true) (cond (p0.Fuel != p1.Fuel) (F_retraceref22_Same_J1 p0 p1 true) (cond (p0.Mode != p1.Mode) (F_retraceref22_Same_J1 p0 p1 true) (cond (p0.Chan != p1.Chan) (F_retraceref22_Same_J1 p0 p1 true) (F_retraceref22_Same_J1 p0 p1 (p0.Val != p1.Val))))))
/- retraceref28_Same -/
noncomputable def F_retraceref28_Same_L2 (p0 : T_api_State) (p1 : T_api_State) (x49 : Int) : Option ((Int) ⊕ (Bool)) :=
  cond (decide (x49 < ((p0.Procs).length : Int))) ((lAt p0.Procs x49).bind fun y64 => (lAt p1.Procs x49).bind fun y65 => (F_retraceref22_Same y64 y65).bind fun y66 => cond (!y66) ((some false).map Sum.inr) (some (.inl (w64 (x49 + 1))))) ((some true).map Sum.inr)
noncomputable def F_retraceref28_Same_J1 (p0 : T_api_State) (p1 : T_api_State) (x24 : Bool) : Option (Bool) :=
  cond x24 (some false) (Loop (fun s : (Int) => F_retraceref28_Same_L2 p0 p1 s) 0)
noncomputable def F_retraceref28_Same (p0 : T_api_State) (p1 : T_api_State) : Option (Bool) :=
  cond (p0.Now != p1.Now) (F_retraceref28_Same_J1 p0 p1 true) (cond (p0.Since != p1.Since) (F_retraceref28_Same_J1 p0 p1 true) (cond (p0.Halt != p1.Halt) (F_retraceref28_Same_J1 p0 p1 true) (cond (p0.Fault != p1.Fault) (F_retraceref28_Same_J1 p0 p1 true) (cond (p0.Who != p1.Who) (F_retraceref28_Same_J1 p0 p1 true) ((F_retraceref03_Same p0.Out p1.Out).bind fun y77 => cond (!y77) (F_retraceref28_Same_J1 p0 p1 true) (F_retraceref28_Same_J1 p0 p1 (((p0.Procs).length : Int) != ((p1.Procs).length : Int))))))))
/- retracelaw30_DumpPuts -/
noncomputable def F_retracelaw30_DumpPuts_J1 (x21 : Bool) : Option (Bool) :=
  some x21
noncomputable def F_retracelaw30_DumpPuts (p0 : T_api_State) : Option (Bool) :=
  (F_retracelaw30_large p0).bind fun y7 => cond y7 ((F_retracelaw30_live).bind fun y10 => some y10) ((F_dump_Put_v2 p0).bind fun y12 => (F_dump_Get y12).bind fun y14 => (F_retraceref30_Put p0).bind fun y22 => cond (y12.toList == y22.toList) ((F_retraceref28_Same y14.1 p0).bind fun y24 => cond y24 (cond (y14.2 == 0) ((F_retracelaw30_live).bind fun y27 => F_retracelaw30_DumpPuts_J1 y27) (F_retracelaw30_DumpPuts_J1 false)) (F_retracelaw30_DumpPuts_J1 false)) (F_retracelaw30_DumpPuts_J1 false))
/- retraceref01_Get -/
noncomputable def F_retraceref01_Get_J2 (p1 : Int) (x75 : Int) (x76 : Int) (x77 : Int) (y113 : Int) (x128 : Bool) : Option ((Int × Int × Int) ⊕ (T_retraceref01_Got)) :=
  cond x128 ((some (⟨0, 0, 3⟩ : T_retraceref01_Got)).map Sum.inr) (cond (decide (y113 < 128)) ((some (⟨(wu64 (x75 + (wu64 ((wu64 (Int.tmod y113 128)) * x76)))), (w64 ((w64 (p1 + x77)) + 1)), 0⟩ : T_retraceref01_Got)).map Sum.inr) (some (.inl ((wu64 (x75 + (wu64 ((wu64 (Int.tmod y113 128)) * x76)))), (wu64 (x76 * 128)), (w64 (x77 + 1))))))
noncomputable def F_retraceref01_Get_L3 (p0 : ByteArray) (p1 : Int) (x75 : Int) (x76 : Int) (x77 : Int) : Option ((Int × Int × Int) ⊕ (T_retraceref01_Got)) :=
  cond (decide (x77 < 10)) (cond (decide ((p0.size : Int) ≤ (w64 (p1 + x77)))) ((some (⟨0, 0, 2⟩ : T_retraceref01_Got)).map Sum.inr) ((sAt p0 (w64 (p1 + x77))).bind fun y113 => cond (x77 == 9) (cond (decide (1 < y113)) (F_retraceref01_Get_J2 p1 x75 x76 x77 y113 true) (cond (y113 == 0) (F_retraceref01_Get_J2 p1 x75 x76 x77 y113 (decide (0 < x77))) (F_retraceref01_Get_J2 p1 x75 x76 x77 y113 false))) (cond (y113 == 0) (F_retraceref01_Get_J2 p1 x75 x76 x77 y113 (decide (0 < x77))) (F_retraceref01_Get_J2 p1 x75 x76 x77 y113 false)))) ((some (⟨0, 0, 3⟩ : T_retraceref01_Got)).map Sum.inr)
noncomputable def F_retraceref01_Get_J1 (p0 : ByteArray) (p1 : Int) (x6 : Bool) : Option (T_retraceref01_Got) :=
  cond x6 (some (⟨0, 0, 1⟩ : T_retraceref01_Got)) (Loop (fun s : (Int × Int × Int) => F_retraceref01_Get_L3 p0 p1 s.1 s.2.1 s.2.2) (0, 1, 0))
noncomputable def F_retraceref01_Get (p0 : ByteArray) (p1 : Int) : Option (T_retraceref01_Got) :=
  cond (decide (p1 < 0)) (F_retraceref01_Get_J1 p0 p1 true) (F_retraceref01_Get_J1 p0 p1 (decide ((p0.size : Int) < p1)))
/- retraceref03_Reader_fail -/
noncomputable def F_retraceref03_Reader_fail (p1 : Int) (o0 : T_retraceref03_Reader) : Option (T_retraceref03_Reader) :=
  cond (o0.Bad == 0) (some (⟨o0.S, p1⟩ : T_retraceref03_Reader)) (some o0)
/- retraceref03_Reader_Num -/
noncomputable def F_retraceref03_Reader_Num (o0 : T_retraceref03_Reader) : Option (Int × T_retraceref03_Reader) :=
  cond (o0.Bad != 0) (some (0, o0)) ((F_retraceref01_Get o0.S 0).bind fun y4 => cond (y4.E != 0) ((F_retraceref03_Reader_fail y4.E o0).bind fun y10 => some (0, y10)) (grd ((0 : Int) ≤ y4.Next ∧ y4.Next ≤ (o0.S.size : Int) ∧ (o0.S.size : Int) ≤ (o0.S.size : Int)) <| some (y4.U, (⟨(o0.S.extract (Int.toNat y4.Next) (Int.toNat (o0.S.size : Int))), o0.Bad⟩ : T_retraceref03_Reader))))
/- retraceref01_Zag -/
noncomputable def F_retraceref01_Zag (p0 : Int) : Option (Int) :=
  cond ((Int.tmod p0 2) == 1) (some (w64 ((w64 (0 - (w64 (wu64 (Int.tdiv p0 2))))) - 1))) (some (w64 (wu64 (Int.tdiv p0 2))))
/- retraceref03_Reader_Int -/
noncomputable def F_retraceref03_Reader_Int (o0 : T_retraceref03_Reader) : Option (Int × T_retraceref03_Reader) :=
  (F_retraceref03_Reader_Num o0).bind fun y3 => (F_retraceref01_Zag y3.1).bind fun y4 => some (y4, y3.2)
/- retraceref03_Reader_Upto -/
noncomputable def F_retraceref03_Reader_Upto_J1 (o0 : T_retraceref03_Reader) (y2 : Int × T_retraceref03_Reader) (x13 : Bool) : Option (Int × T_retraceref03_Reader) :=
  cond x13 ((F_retraceref03_Reader_fail 6 (⟨o0.S, y2.2.Bad⟩ : T_retraceref03_Reader)).bind fun y16 => some (0, y16)) (some ((w64 y2.1), y2.2))
noncomputable def F_retraceref03_Reader_Upto (p1 : Int) (o0 : T_retraceref03_Reader) : Option (Int × T_retraceref03_Reader) :=
  (F_retraceref03_Reader_Num o0).bind fun y2 => cond (y2.2.Bad == 0) (cond (decide (p1 < 0)) (F_retraceref03_Reader_Upto_J1 o0 y2 true) (F_retraceref03_Reader_Upto_J1 o0 y2 (decide ((wu64 p1) < y2.1)))) (F_retraceref03_Reader_Upto_J1 o0 y2 false)
/- retraceref03_Reader_Ints -/
noncomputable def F_retraceref03_Reader_Ints_J1 (x23 : Int) (x24 : ByteArray) (x25 : Int) (x26 : (List Int)) (x34 : Bool) : Option ((Int × ByteArray × Int × (List Int)) ⊕ ((List Int) × T_retraceref03_Reader)) :=
  cond x34 ((F_retraceref03_Reader_Int (⟨x24, x25⟩ : T_retraceref03_Reader)).bind fun y38 => grd (((x26).length + ([y38.1]).length) * 8 ≤ 140737488355328) <| some (.inl ((w64 (x23 + 1)), y38.2.S, y38.2.Bad, (x26 ++ [y38.1])))) ((cond (x25 != 0) (some (([] : List Int), (⟨x24, x25⟩ : T_retraceref03_Reader))) (some (x26, (⟨x24, x25⟩ : T_retraceref03_Reader)))).map Sum.inr)
noncomputable def F_retraceref03_Reader_Ints_L2 (y2 : Int × T_retraceref03_Reader) (x23 : Int) (x24 : ByteArray) (x25 : Int) (x26 : (List Int)) : Option ((Int × ByteArray × Int × (List Int)) ⊕ ((List Int) × T_retraceref03_Reader)) :=
  cond (decide (x23 < y2.1)) (F_retraceref03_Reader_Ints_J1 x23 x24 x25 x26 (x25 == 0)) (F_retraceref03_Reader_Ints_J1 x23 x24 x25 x26 false)
noncomputable def F_retraceref03_Reader_Ints (p1 : Int) (o0 : T_retraceref03_Reader) : Option ((List Int) × T_retraceref03_Reader) :=
  (F_retraceref03_Reader_Upto p1 o0).bind fun y2 => Loop (fun s : (Int × ByteArray × Int × (List Int)) => F_retraceref03_Reader_Ints_L2 y2 s.1 s.2.1 s.2.2.1 s.2.2.2) (0, y2.2.S, y2.2.Bad, ([] : (List Int)))
/- retraceref30_Read -/
noncomputable def F_retraceref30_Read_J2 (x227 : Int) (x230 : (List T_api_Proc)) (y340 : Int × T_retraceref03_Reader) (y342 : Int × T_retraceref03_Reader) (y344 : (List Int) × T_retraceref03_Reader) (y346 : Int × T_retraceref03_Reader) (y348 : Int × T_retraceref03_Reader) (y350 : Int × T_retraceref03_Reader) (y352 : Int × T_retraceref03_Reader) (y354 : Int × T_retraceref03_Reader) (y356 : Int × T_retraceref03_Reader) (y358 : Int × T_retraceref03_Reader) (x399 : Int) (x400 : ByteArray) (x401 : Int) (x402 : (List T_api_Alt)) (x410 : Bool) : Option ((Int × ByteArray × Int × (List T_api_Alt)) ⊕ ((Int × ByteArray × Int × (List T_api_Proc)) ⊕ (T_api_State × T_retraceref03_Reader))) :=
  cond x410 ((F_retraceref03_Reader_Int (⟨x400, x401⟩ : T_retraceref03_Reader)).bind fun y424 => (F_retraceref03_Reader_Int y424.2).bind fun y426 => (F_retraceref03_Reader_Int y426.2).bind fun y428 => (F_retraceref03_Reader_Int y428.2).bind fun y430 => (F_retraceref03_Reader_Int y430.2).bind fun y432 => grd (((x402).length + ([(⟨y424.1, y426.1, y428.1, y430.1, y432.1⟩ : T_api_Alt)]).length) * 40 ≤ 140737488355328) <| some (.inl ((w64 (x399 + 1)), y432.2.S, y432.2.Bad, (x402 ++ [(⟨y424.1, y426.1, y428.1, y430.1, y432.1⟩ : T_api_Alt)])))) ((grd (((x230).length + ([(⟨y340.1, y342.1, y344.1, y346.1, y348.1, y350.1, y352.1, y354.1, y356.1, y358.1, x402⟩ : T_api_Proc)]).length) * 120 ≤ 140737488355328) <| some (.inl ((w64 (x227 + 1)), x400, x401, (x230 ++ [(⟨y340.1, y342.1, y344.1, y346.1, y348.1, y350.1, y352.1, y354.1, y356.1, y358.1, x402⟩ : T_api_Proc)])))).map Sum.inr)
noncomputable def F_retraceref30_Read_L3 (x227 : Int) (x230 : (List T_api_Proc)) (y340 : Int × T_retraceref03_Reader) (y342 : Int × T_retraceref03_Reader) (y344 : (List Int) × T_retraceref03_Reader) (y346 : Int × T_retraceref03_Reader) (y348 : Int × T_retraceref03_Reader) (y350 : Int × T_retraceref03_Reader) (y352 : Int × T_retraceref03_Reader) (y354 : Int × T_retraceref03_Reader) (y356 : Int × T_retraceref03_Reader) (y358 : Int × T_retraceref03_Reader) (y360 : Int × T_retraceref03_Reader) (x399 : Int) (x400 : ByteArray) (x401 : Int) (x402 : (List T_api_Alt)) : Option ((Int × ByteArray × Int × (List T_api_Alt)) ⊕ ((Int × ByteArray × Int × (List T_api_Proc)) ⊕ (T_api_State × T_retraceref03_Reader))) :=
  cond (decide (x399 < y360.1)) (F_retraceref30_Read_J2 x227 x230 y340 y342 y344 y346 y348 y350 y352 y354 y356 y358 x399 x400 x401 x402 (x401 == 0)) (F_retraceref30_Read_J2 x227 x230 y340 y342 y344 y346 y348 y350 y352 y354 y356 y358 x399 x400 x401 x402 false)
noncomputable def F_retraceref30_Read_J1 (y2 : Int × T_retraceref03_Reader) (y4 : Int × T_retraceref03_Reader) (y6 : Int × T_retraceref03_Reader) (y8 : Int × T_retraceref03_Reader) (y10 : Int × T_retraceref03_Reader) (x227 : Int) (x228 : ByteArray) (x229 : Int) (x230 : (List T_api_Proc)) (x238 : Bool) : Option ((Int × ByteArray × Int × (List T_api_Proc)) ⊕ (T_api_State × T_retraceref03_Reader)) :=
  cond x238 ((F_retraceref03_Reader_Int (⟨x228, x229⟩ : T_retraceref03_Reader)).bind fun y340 => (F_retraceref03_Reader_Int y340.2).bind fun y342 => (F_retraceref03_Reader_Ints 4096 y342.2).bind fun y344 => (F_retraceref03_Reader_Int y344.2).bind fun y346 => (F_retraceref03_Reader_Int y346.2).bind fun y348 => (F_retraceref03_Reader_Int y348.2).bind fun y350 => (F_retraceref03_Reader_Int y350.2).bind fun y352 => (F_retraceref03_Reader_Int y352.2).bind fun y354 => (F_retraceref03_Reader_Int y354.2).bind fun y356 => (F_retraceref03_Reader_Int y356.2).bind fun y358 => (F_retraceref03_Reader_Upto 4096 y358.2).bind fun y360 => Loop (fun s : (Int × ByteArray × Int × (List T_api_Alt)) => F_retraceref30_Read_L3 x227 x230 y340 y342 y344 y346 y348 y350 y352 y354 y356 y358 y360 s.1 s.2.1 s.2.2.1 s.2.2.2) (0, y360.2.S, y360.2.Bad, ([] : (List T_api_Alt)))) (((F_retraceref03_Reader_Ints 1048576 (⟨x228, x229⟩ : T_retraceref03_Reader)).bind fun y441 => cond (y441.2.Bad != 0) (some ((⟨0, 0, 0, 0, 0, ([] : List T_api_Proc), ([] : List Int)⟩ : T_api_State), y441.2)) (some ((⟨y2.1, y4.1, y6.1, y8.1, y10.1, x230, y441.1⟩ : T_api_State), y441.2))).map Sum.inr)
noncomputable def F_retraceref30_Read_L4 (y2 : Int × T_retraceref03_Reader) (y4 : Int × T_retraceref03_Reader) (y6 : Int × T_retraceref03_Reader) (y8 : Int × T_retraceref03_Reader) (y10 : Int × T_retraceref03_Reader) (y12 : Int × T_retraceref03_Reader) (x227 : Int) (x228 : ByteArray) (x229 : Int) (x230 : (List T_api_Proc)) : Option ((Int × ByteArray × Int × (List T_api_Proc)) ⊕ (T_api_State × T_retraceref03_Reader)) :=
  cond (decide (x227 < y12.1)) (F_retraceref30_Read_J1 y2 y4 y6 y8 y10 x227 x228 x229 x230 (x229 == 0)) (F_retraceref30_Read_J1 y2 y4 y6 y8 y10 x227 x228 x229 x230 false)
noncomputable def F_retraceref30_Read (o0 : T_retraceref03_Reader) : Option (T_api_State × T_retraceref03_Reader) :=
  (F_retraceref03_Reader_Int o0).bind fun y2 => (F_retraceref03_Reader_Int y2.2).bind fun y4 => (F_retraceref03_Reader_Int y4.2).bind fun y6 => (F_retraceref03_Reader_Int y6.2).bind fun y8 => (F_retraceref03_Reader_Int y8.2).bind fun y10 => (F_retraceref03_Reader_Upto 4096 y10.2).bind fun y12 => Loop (fun s : (Int × ByteArray × Int × (List T_api_Proc)) => F_retraceref30_Read_L4 y2 y4 y6 y8 y10 y12 s.1 s.2.1 s.2.2.1 s.2.2.2) (0, y12.2.S, y12.2.Bad, ([] : (List T_api_Proc)))
/- retraceref03_Reader_End -/
noncomputable def F_retraceref03_Reader_End_J1 (o0 : T_retraceref03_Reader) (x6 : Bool) : Option (Int) :=
  cond x6 (some 3) (some o0.Bad)
noncomputable def F_retraceref03_Reader_End (o0 : T_retraceref03_Reader) : Option (Int) :=
  cond (o0.Bad == 0) (F_retraceref03_Reader_End_J1 o0 (decide (0 < (o0.S.size : Int)))) (F_retraceref03_Reader_End_J1 o0 false)
/- retraceref30_Get -/
noncomputable def F_retraceref30_Get (p0 : ByteArray) : Option (T_retraceref30_Got) :=
  (F_retraceref30_Read (⟨p0, 0⟩ : T_retraceref03_Reader)).bind fun y2 => (F_retraceref03_Reader_End y2.2).bind fun y7 => cond (y7 != 0) (some (⟨(⟨0, 0, 0, 0, 0, ([] : List T_api_Proc), ([] : List Int)⟩ : T_api_State), y7⟩ : T_retraceref30_Got)) (some (⟨y2.1, 0⟩ : T_retraceref30_Got))
/- retracelaw30_DumpGets -/
noncomputable def F_retracelaw30_DumpGets_J2 (x26 : Bool) : Option (Bool) :=
  some x26
noncomputable def F_retracelaw30_DumpGets_J1 (p0 : ByteArray) (y8 : T_api_State × Int) (x19 : Bool) : Option (Bool) :=
  cond x19 (some false) (cond (y8.2 != 0) ((F_retracelaw30_live).bind fun y28 => F_retracelaw30_DumpGets_J2 y28) ((F_dump_Put_v2 y8.1).bind fun y29 => cond (y29.toList == p0.toList) ((F_retracelaw30_live).bind fun y31 => F_retracelaw30_DumpGets_J2 y31) (F_retracelaw30_DumpGets_J2 false)))
noncomputable def F_retracelaw30_DumpGets (p0 : ByteArray) : Option (Bool) :=
  cond (decide (800 < (p0.size : Int))) ((F_retracelaw30_live).bind fun y6 => some y6) ((F_dump_Get p0).bind fun y8 => (F_retraceref30_Get p0).bind fun y10 => (F_retraceref28_Same y8.1 y10.S).bind fun y32 => cond (!y32) (F_retracelaw30_DumpGets_J1 p0 y8 true) (F_retracelaw30_DumpGets_J1 p0 y8 (y8.2 != y10.E)))
/- wire_Reader_Raw_1 -/
noncomputable def F_wire_Reader_Raw_1 (p0 : ByteArray) (o0_0 : Int) (o1_0 : ByteArray) : Option (Int × Int × ByteArray) :=
  cond (decide (o0_0 < 0)) (some (0, 1, o1_0)) (cond (decide ((p0.size : Int) < o0_0)) (some (0, 2, o1_0)) (grd ((0 : Int) ≤ 0 ∧ 0 ≤ o0_0 ∧ o0_0 ≤ (p0.size : Int)) <| some (o0_0, 0, (p0.extract (Int.toNat 0) (Int.toNat o0_0)))))
/- wire_Reader_step_v3 -/
noncomputable def F_wire_Reader_step_v3 (o0 : T_wire_Reader) (o1_0 : Int) (o2_0 : ByteArray) : Option (Bool × T_wire_Reader × ByteArray) :=
  cond (o0.e != 0) (some (false, o0, o2_0)) ((F_wire_Reader_Raw_1 o0.s o1_0 o2_0).bind fun y4 => cond (y4.2.1 != 0) (some (false, (⟨o0.s, y4.2.1⟩ : T_wire_Reader), y4.2.2)) (grd ((0 : Int) ≤ y4.1 ∧ y4.1 ≤ (o0.s.size : Int) ∧ (o0.s.size : Int) ≤ (o0.s.size : Int)) <| some (true, (⟨(o0.s.extract (Int.toNat y4.1) (Int.toNat (o0.s.size : Int))), o0.e⟩ : T_wire_Reader), y4.2.2)))
/- wire_Reader_Raw -/
noncomputable def F_wire_Reader_Raw (p1 : Int) (o0 : T_wire_Reader) : Option (ByteArray × T_wire_Reader) :=
  (F_wire_Reader_step_v3 o0 p1 (⟨#[]⟩ : ByteArray)).bind fun y2 => some (y2.2.2, y2.2.1)
/- retraceref03_Reader_Raw -/
noncomputable def F_retraceref03_Reader_Raw (p1 : Int) (o0 : T_retraceref03_Reader) : Option (ByteArray × T_retraceref03_Reader) :=
  cond (o0.Bad != 0) (some ((⟨#[]⟩ : ByteArray), o0)) (cond (decide (p1 < 0)) ((F_retraceref03_Reader_fail 1 o0).bind fun y8 => some ((⟨#[]⟩ : ByteArray), y8)) (cond (decide ((o0.S.size : Int) < p1)) ((F_retraceref03_Reader_fail 2 o0).bind fun y14 => some ((⟨#[]⟩ : ByteArray), y14)) (grd ((0 : Int) ≤ 0 ∧ 0 ≤ p1 ∧ p1 ≤ (o0.S.size : Int)) <| grd ((0 : Int) ≤ p1 ∧ p1 ≤ (o0.S.size : Int) ∧ (o0.S.size : Int) ≤ (o0.S.size : Int)) <| some ((o0.S.extract (Int.toNat 0) (Int.toNat p1)), (⟨(o0.S.extract (Int.toNat p1) (Int.toNat (o0.S.size : Int))), o0.Bad⟩ : T_retraceref03_Reader)))))
/- wire_Reader_step_v4 -/
noncomputable def F_wire_Reader_step_v4 (o0_0 : Int) : Option (Bool) :=
  some false
/- wire_Reader_Int_v2 -/
noncomputable def F_wire_Reader_Int_v2  : Option (Int) :=
  (F_wire_Reader_step_v4 0).bind fun y2 => some 0
/- dump_reader_into_v5 -/
noncomputable def F_dump_reader_into_v5 (o1 : T_api_State) : Option (T_api_State) :=
  (F_wire_Reader_Int_v2).bind fun y2 => (F_wire_Reader_Int_v2).bind fun y4 => (F_wire_Reader_Int_v2).bind fun y6 => (F_wire_Reader_Int_v2).bind fun y8 => (F_wire_Reader_Int_v2).bind fun y10 => some (⟨y2, y4, y6, y8, y10, o1.Procs, o1.Out⟩ : T_api_State)
/- wire_Reader_step_v5 -/
noncomputable def F_wire_Reader_step_v5 (o0_0 : Int) (o1_0 : Int) : Option (Bool) :=
  some false
/- wire_Reader_Upto_v2 -/
noncomputable def F_wire_Reader_Upto_v2 (p1 : Int) : Option (Int) :=
  (F_wire_Reader_step_v5 0 p1).bind fun y2 => cond (!y2) (some 0) (some 0)
/- wire_Reader_Err_v2 -/
noncomputable def F_wire_Reader_Err_v2  : Option (Int) :=
  some 9
/- dump_reader_into_v6 -/
noncomputable def F_dump_reader_into_v6 (o1 : T_api_Proc) : Option (T_api_Proc) :=
  (F_wire_Reader_Int_v2).bind fun y2 => (F_wire_Reader_Int_v2).bind fun y4 => some (⟨y2, y4, o1.Vars, o1.Fuel, o1.Mode, o1.Chan, o1.Val, o1.Slot, o1.Until, o1.Since, o1.Alts⟩ : T_api_Proc)
/- wire_Reader_Ints_v2 -/
noncomputable def F_wire_Reader_Ints_v2_J1 (x22 : (List Int)) (x33 : Bool) : Option (((List Int)) ⊕ ((List Int))) :=
  cond x33 ((F_wire_Reader_Int_v2).bind fun y35 => grd (((x22).length + ([y35]).length) * 8 ≤ 140737488355328) <| some (.inl (x22 ++ [y35]))) (((F_wire_Reader_Err_v2).bind fun y43 => cond (y43 != 0) (some ([] : List Int)) (some x22)).map Sum.inr)
noncomputable def F_wire_Reader_Ints_v2_L2 (y2 : Int) (x22 : (List Int)) : Option (((List Int)) ⊕ ((List Int))) :=
  cond (decide (((x22).length : Int) < y2)) ((F_wire_Reader_Err_v2).bind fun y46 => F_wire_Reader_Ints_v2_J1 x22 (y46 == 0)) (F_wire_Reader_Ints_v2_J1 x22 false)
noncomputable def F_wire_Reader_Ints_v2 (p1 : Int) : Option ((List Int)) :=
  (F_wire_Reader_Upto_v2 p1).bind fun y2 => Loop (fun s : ((List Int)) => F_wire_Reader_Ints_v2_L2 y2 s) ([] : (List Int))
/- dump_reader_into_v7 -/
noncomputable def F_dump_reader_into_v7 (o1 : T_api_Proc) : Option (T_api_Proc) :=
  (F_wire_Reader_Int_v2).bind fun y2 => (F_wire_Reader_Int_v2).bind fun y4 => (F_wire_Reader_Int_v2).bind fun y6 => (F_wire_Reader_Int_v2).bind fun y8 => (F_wire_Reader_Int_v2).bind fun y10 => (F_wire_Reader_Int_v2).bind fun y12 => (F_wire_Reader_Int_v2).bind fun y14 => some (⟨o1.Def, o1.At, o1.Vars, y2, y4, y6, y8, y10, y12, y14, o1.Alts⟩ : T_api_Proc)
/- dump_reader_into_v8 -/
noncomputable def F_dump_reader_into_v8 (o1 : T_api_Alt) : Option (T_api_Alt) :=
  (F_wire_Reader_Int_v2).bind fun y2 => (F_wire_Reader_Int_v2).bind fun y4 => (F_wire_Reader_Int_v2).bind fun y6 => (F_wire_Reader_Int_v2).bind fun y8 => (F_wire_Reader_Int_v2).bind fun y10 => some (⟨y2, y4, y6, y8, y10⟩ : T_api_Alt)
/- dump_reader_proc_1_v2 -/
noncomputable def F_dump_reader_proc_1_v2 (o1 : T_api_Proc) : Option (T_api_Proc) :=
  (F_dump_reader_into_v8 (⟨0, 0, 0, 0, 0⟩ : T_api_Alt)).bind fun y2 => grd (((o1.Alts).length + ([y2]).length) * 40 ≤ 140737488355328) <| some (⟨o1.Def, o1.At, o1.Vars, o1.Fuel, o1.Mode, o1.Chan, o1.Val, o1.Slot, o1.Until, o1.Since, (o1.Alts ++ [y2])⟩ : T_api_Proc)
/- dump_reader_each_v4 -/
noncomputable def F_dump_reader_each_v4_J1 (x3 : Int) (x4 : Int) (x5 : Int) (x6 : Int) (x7 : Int) (x8 : Int) (x9 : Int) (x10 : Int) (x11 : Int) (x12 : Int) (x13 : (List Int)) (x14 : (List T_api_Alt)) (x25 : Bool) : Option ((Int × Int × Int × Int × Int × Int × Int × Int × Int × Int × (List Int) × (List T_api_Alt)) ⊕ (T_api_Proc)) :=
  cond x25 ((F_dump_reader_proc_1_v2 (⟨x4, x5, x13, x6, x7, x8, x9, x10, x11, x12, x14⟩ : T_api_Proc)).bind fun y28 => some (.inl ((w64 (x3 + 1)), y28.Def, y28.At, y28.Fuel, y28.Mode, y28.Chan, y28.Val, y28.Slot, y28.Until, y28.Since, y28.Vars, y28.Alts))) ((some (⟨x4, x5, x13, x6, x7, x8, x9, x10, x11, x12, x14⟩ : T_api_Proc)).map Sum.inr)
noncomputable def F_dump_reader_each_v4_L2 (y2 : Int) (x3 : Int) (x4 : Int) (x5 : Int) (x6 : Int) (x7 : Int) (x8 : Int) (x9 : Int) (x10 : Int) (x11 : Int) (x12 : Int) (x13 : (List Int)) (x14 : (List T_api_Alt)) : Option ((Int × Int × Int × Int × Int × Int × Int × Int × Int × Int × (List Int) × (List T_api_Alt)) ⊕ (T_api_Proc)) :=
  cond (decide (x3 < y2)) ((F_wire_Reader_Err_v2).bind fun y32 => F_dump_reader_each_v4_J1 x3 x4 x5 x6 x7 x8 x9 x10 x11 x12 x13 x14 (y32 == 0)) (F_dump_reader_each_v4_J1 x3 x4 x5 x6 x7 x8 x9 x10 x11 x12 x13 x14 false)
noncomputable def F_dump_reader_each_v4 (o1 : T_api_Proc) : Option (T_api_Proc) :=
  (F_wire_Reader_Upto_v2 4096).bind fun y2 => Loop (fun s : (Int × Int × Int × Int × Int × Int × Int × Int × Int × Int × (List Int) × (List T_api_Alt)) => F_dump_reader_each_v4_L2 y2 s.1 s.2.1 s.2.2.1 s.2.2.2.1 s.2.2.2.2.1 s.2.2.2.2.2.1 s.2.2.2.2.2.2.1 s.2.2.2.2.2.2.2.1 s.2.2.2.2.2.2.2.2.1 s.2.2.2.2.2.2.2.2.2.1 s.2.2.2.2.2.2.2.2.2.2.1 s.2.2.2.2.2.2.2.2.2.2.2) (0, o1.Def, o1.At, o1.Fuel, o1.Mode, o1.Chan, o1.Val, o1.Slot, o1.Until, o1.Since, o1.Vars, o1.Alts)
/- dump_reader_proc_v2 -/
noncomputable def F_dump_reader_proc_v2  : Option (T_api_Proc) :=
  (F_dump_reader_into_v6 (⟨0, 0, ([] : List Int), 0, 0, 0, 0, 0, 0, 0, ([] : List T_api_Alt)⟩ : T_api_Proc)).bind fun y2 => (F_wire_Reader_Ints_v2 4096).bind fun y4 => (F_dump_reader_into_v7 (⟨y2.Def, y2.At, y4, y2.Fuel, y2.Mode, y2.Chan, y2.Val, y2.Slot, y2.Until, y2.Since, y2.Alts⟩ : T_api_Proc)).bind fun y6 => (F_dump_reader_each_v4 y6).bind fun y8 => some y8
/- dump_Read_1_v2 -/
noncomputable def F_dump_Read_1_v2 (o0 : T_api_State) : Option (T_api_State) :=
  (F_dump_reader_proc_v2).bind fun y1 => grd (((o0.Procs).length + ([y1]).length) * 120 ≤ 140737488355328) <| some (⟨o0.Now, o0.Since, o0.Halt, o0.Fault, o0.Who, (o0.Procs ++ [y1]), o0.Out⟩ : T_api_State)
/- dump_reader_each_v3 -/
noncomputable def F_dump_reader_each_v3_J1 (x3 : Int) (x4 : Int) (x5 : Int) (x6 : Int) (x7 : Int) (x8 : Int) (x9 : (List T_api_Proc)) (x10 : (List Int)) (x21 : Bool) : Option ((Int × Int × Int × Int × Int × Int × (List T_api_Proc) × (List Int)) ⊕ (T_api_State)) :=
  cond x21 ((F_dump_Read_1_v2 (⟨x4, x5, x6, x7, x8, x9, x10⟩ : T_api_State)).bind fun y24 => some (.inl ((w64 (x3 + 1)), y24.Now, y24.Since, y24.Halt, y24.Fault, y24.Who, y24.Procs, y24.Out))) ((some (⟨x4, x5, x6, x7, x8, x9, x10⟩ : T_api_State)).map Sum.inr)
noncomputable def F_dump_reader_each_v3_L2 (y2 : Int) (x3 : Int) (x4 : Int) (x5 : Int) (x6 : Int) (x7 : Int) (x8 : Int) (x9 : (List T_api_Proc)) (x10 : (List Int)) : Option ((Int × Int × Int × Int × Int × Int × (List T_api_Proc) × (List Int)) ⊕ (T_api_State)) :=
  cond (decide (x3 < y2)) ((F_wire_Reader_Err_v2).bind fun y28 => F_dump_reader_each_v3_J1 x3 x4 x5 x6 x7 x8 x9 x10 (y28 == 0)) (F_dump_reader_each_v3_J1 x3 x4 x5 x6 x7 x8 x9 x10 false)
noncomputable def F_dump_reader_each_v3 (o0 : T_api_State) : Option (T_api_State) :=
  (F_wire_Reader_Upto_v2 4096).bind fun y2 => Loop (fun s : (Int × Int × Int × Int × Int × Int × (List T_api_Proc) × (List Int)) => F_dump_reader_each_v3_L2 y2 s.1 s.2.1 s.2.2.1 s.2.2.2.1 s.2.2.2.2.1 s.2.2.2.2.2.1 s.2.2.2.2.2.2.1 s.2.2.2.2.2.2.2) (0, o0.Now, o0.Since, o0.Halt, o0.Fault, o0.Who, o0.Procs, o0.Out)
/- dump_Read_v2 -/
noncomputable def F_dump_Read_v2  : Option (T_api_State) :=
  (F_dump_reader_into_v5 (⟨0, 0, 0, 0, 0, ([] : List T_api_Proc), ([] : List Int)⟩ : T_api_State)).bind fun y2 => (F_dump_reader_each_v3 y2).bind fun y4 => (F_wire_Reader_Ints_v2 1048576).bind fun y6 => (F_wire_Reader_Err_v2).bind fun y11 => cond (y11 != 0) (some (⟨0, 0, 0, 0, 0, ([] : List T_api_Proc), ([] : List Int)⟩ : T_api_State)) (some (⟨y4.Now, y4.Since, y4.Halt, y4.Fault, y4.Who, y4.Procs, y6⟩ : T_api_State))
/- retracelaw30_DumpReads -/
noncomputable def F_retracelaw30_DumpReads_J1 (x27 : Bool) : Option (Bool) :=
  some x27
noncomputable def F_retracelaw30_DumpReads (p0 : ByteArray) (p1 : Int) : Option (Bool) :=
  cond (decide (800 < (p0.size : Int))) ((F_retracelaw30_live).bind fun y6 => some y6) ((F_wire_Open p0).bind fun y8 => (F_wire_Reader_Raw p1 y8).bind fun y10 => (F_retraceref03_Reader_Raw p1 (⟨p0, 0⟩ : T_retraceref03_Reader)).bind fun y12 => (F_dump_Read y10.2).bind fun y15 => (F_retraceref30_Read y12.2).bind fun y16 => (F_retraceref28_Same y15.1 y16.1).bind fun y28 => cond y28 ((F_wire_Reader_Left y15.2).bind fun y30 => cond (y30 == (y16.2.S.size : Int)) ((F_wire_Reader_Err y15.2).bind fun y32 => cond (y32 == y16.2.Bad) ((F_dump_Read_v2).bind fun y34 => (F_retraceref28_Same y34 (⟨0, 0, 0, 0, 0, ([] : (List T_api_Proc)), ([] : (List Int))⟩ : T_api_State)).bind fun y35 => cond y35 ((F_retracelaw30_live).bind fun y37 => F_retracelaw30_DumpReads_J1 y37) (F_retracelaw30_DumpReads_J1 false)) (F_retracelaw30_DumpReads_J1 false)) (F_retracelaw30_DumpReads_J1 false)) (F_retracelaw30_DumpReads_J1 false))

theorem mixedOrd : Try.prog.follows .mixedOrders = true := by kernel_rfl
end Go.Ab
