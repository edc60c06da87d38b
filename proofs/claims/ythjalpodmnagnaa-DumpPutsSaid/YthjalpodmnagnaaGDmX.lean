import Derived.Test.YthjalpodmnagnaaGDm
import Derived.Test.YthjalpodmnagnaaAbEval
namespace Go.Ab
open Go.Proofs
set_option linter.unusedVariables false
noncomputable def X_vint_Zig (p0 : Int) : Option (Int) :=
  some (bits .xor .u64 (wu64 ((wu64 p0) * 2)) (wu64 (Int.fdiv p0 9223372036854775808)))
noncomputable def X_vint_Size_L1 (x9 : Int) (x10 : Int) : Option ((Int × Int) ⊕ (Int)) :=
  cond (decide (128 ≤ x9)) (some (.inl ((Int.fdiv x9 128), (w64 (x10 + 1))))) ((some x10).map Sum.inr)
noncomputable def X_vint_Size (p0 : Int) : Option (Int) :=
  Loopx (fun s : (Int × Int) => X_vint_Size_L1 s.1 s.2) (p0, 1)
noncomputable def X_vint_Put_L1 (x17 : Int) (x18 : (List Int)) : Option ((Int × (List Int)) ⊕ (ByteArray)) :=
  cond (decide (128 ≤ x17)) (grd (((x18).length + ([(bits .or .u8 (wu8 x17) 128)]).length) * 1 ≤ 140737488355328) <| some (.inl ((Int.fdiv x17 128), (x18 ++ [(bits .or .u8 (wu8 x17) 128)])))) ((grd (((x18).length + ([(wu8 x17)]).length) * 1 ≤ 140737488355328) <| some (strOfNums (x18 ++ [(wu8 x17)]))).map Sum.inr)
noncomputable def X_vint_Put (p0 : ByteArray) (p1 : Int) : Option (ByteArray) :=
  (X_vint_Size p1).bind fun y3 => grd ((0 : Int) ≤ 0 ∧ 0 ≤ (w64 ((p0.size : Int) + y3)) ∧ (w64 ((p0.size : Int) + y3)) ≤ 281474976710656 ∧ (1 : Int) * (w64 ((p0.size : Int) + y3)) ≤ 281474976710656) <| grd (((([] : List Int)).length + p0.size) * 1 ≤ 140737488355328) <| Loopx (fun s : (Int × (List Int)) => X_vint_Put_L1 s.1 s.2) (p1, (([] : List Int) ++ (sB p0)))
noncomputable def X_vint_PutInt (p0 : ByteArray) (p1 : Int) : Option (ByteArray) :=
  (X_vint_Zig p1).bind fun y3 => (X_vint_Put p0 y3).bind fun y4 => some y4
noncomputable def X_wire_Writer_add (p1 : ByteArray) (o0 : T_wire_Writer) : Option (T_wire_Writer) :=
  grd (((o0.s).length + p1.size) * 1 ≤ 140737488355328) <| some (⟨(o0.s ++ (sB p1))⟩ : T_wire_Writer)
noncomputable def X_wire_Writer_Int (p1 : Int) (o0 : T_wire_Writer) : Option (T_wire_Writer) :=
  (X_vint_PutInt (⟨#[]⟩ : ByteArray) p1).bind fun y1 => (X_wire_Writer_add y1 o0).bind fun y2 => some y2
noncomputable def X_dump_writer_ints_L1 (o2 : (List Int)) (x1 : Int) (x2 : (List Int)) : Option ((Int × (List Int)) ⊕ (T_wire_Writer)) :=
  cond (decide (x1 < ((o2).length : Int))) ((lAt o2 x1).bind fun y11 => (X_wire_Writer_Int y11 (⟨x2⟩ : T_wire_Writer)).bind fun y12 => some (.inl ((w64 (x1 + 1)), y12.s))) ((some (⟨x2⟩ : T_wire_Writer)).map Sum.inr)
noncomputable def X_dump_writer_ints (o0 : T_wire_Writer) (o2 : (List Int)) : Option (T_wire_Writer) :=
  Loopx (fun s : (Int × (List Int)) => X_dump_writer_ints_L1 o2 s.1 s.2) (0, o0.s)
noncomputable def X_wire_Writer_Num (p1 : Int) (o0 : T_wire_Writer) : Option (T_wire_Writer) :=
  (X_vint_Put (⟨#[]⟩ : ByteArray) p1).bind fun y1 => (X_wire_Writer_add y1 o0).bind fun y2 => some y2
noncomputable def X_wire_Writer_Ints_L1 (p1 : (List Int)) (x3 : Int) (x4 : (List Int)) : Option ((Int × (List Int)) ⊕ (T_wire_Writer)) :=
  cond (decide (x3 < ((p1).length : Int))) ((lAt p1 x3).bind fun y13 => (X_wire_Writer_Int y13 (⟨x4⟩ : T_wire_Writer)).bind fun y14 => some (.inl ((w64 (x3 + 1)), y14.s))) ((some (⟨x4⟩ : T_wire_Writer)).map Sum.inr)
noncomputable def X_wire_Writer_Ints (p1 : (List Int)) (o0 : T_wire_Writer) : Option (T_wire_Writer) :=
  (X_wire_Writer_Num (wu64 ((p1).length : Int)) o0).bind fun y2 => Loopx (fun s : (Int × (List Int)) => X_wire_Writer_Ints_L1 p1 s.1 s.2) (0, y2.s)
noncomputable def X_dump_writer_proc_L1 (p1 : T_api_Proc) (x9 : Int) (x10 : (List Int)) : Option ((Int × (List Int)) ⊕ (T_wire_Writer)) :=
  cond (decide (x9 < ((p1.Alts).length : Int))) ((lAt p1.Alts x9).bind fun y19 => (X_dump_writer_ints (⟨x10⟩ : T_wire_Writer) ([y19.Kind, y19.Chan, y19.Val, y19.Slot, y19.Goto])).bind fun y20 => some (.inl ((w64 (x9 + 1)), y20.s))) ((some (⟨x10⟩ : T_wire_Writer)).map Sum.inr)
noncomputable def X_dump_writer_proc (p1 : T_api_Proc) (o0 : T_wire_Writer) : Option (T_wire_Writer) :=
  (X_dump_writer_ints o0 ([p1.Def, p1.At])).bind fun y2 => (X_wire_Writer_Ints p1.Vars y2).bind fun y4 => (X_dump_writer_ints y4 ([p1.Fuel, p1.Mode, p1.Chan, p1.Val, p1.Slot, p1.Until, p1.Since])).bind fun y6 => (X_wire_Writer_Num (wu64 ((p1.Alts).length : Int)) y6).bind fun y8 => Loopx (fun s : (Int × (List Int)) => X_dump_writer_proc_L1 p1 s.1 s.2) (0, y8.s)
noncomputable def X_wire_Writer_Bytes (o0 : T_wire_Writer) : Option (ByteArray) :=
  some (strOfNums o0.s)
noncomputable def X_dump_Put_L1 (p0_5 : (List T_api_Proc)) (o0 : (List Int)) (x19 : Int) (x20 : (List Int)) : Option ((Int × (List Int)) ⊕ (ByteArray)) :=
  cond (decide (x19 < ((p0_5).length : Int))) ((lAt p0_5 x19).bind fun y29 => (X_dump_writer_proc y29 (⟨x20⟩ : T_wire_Writer)).bind fun y30 => some (.inl ((w64 (x19 + 1)), y30.s))) (((X_wire_Writer_Ints o0 (⟨x20⟩ : T_wire_Writer)).bind fun y34 => (X_wire_Writer_Bytes y34).bind fun y36 => some y36).map Sum.inr)
noncomputable def X_dump_Put (p0_0 : Int) (p0_1 : Int) (p0_2 : Int) (p0_3 : Int) (p0_4 : Int) (p0_5 : (List T_api_Proc)) (o0 : (List Int)) : Option (ByteArray) :=
  (X_dump_writer_ints (⟨([] : List Int)⟩ : T_wire_Writer) ([p0_0, p0_1, p0_2, p0_3, p0_4])).bind fun y2 => (X_wire_Writer_Num (wu64 ((p0_5).length : Int)) y2).bind fun y4 => Loopx (fun s : (Int × (List Int)) => X_dump_Put_L1 p0_5 o0 s.1 s.2) (0, y4.s)
noncomputable def X_wire_Open (p0 : ByteArray) : Option (T_wire_Reader) :=
  some (⟨p0, 0⟩ : T_wire_Reader)
noncomputable def X_vint_Get_J2 (x90 : Int) : Option (Int × Int × Int) :=
  some (0, 0, x90)
noncomputable def X_vint_Get_J3 (p1 : Int) (x95 : Int) (x96 : Int) (y135 : Int) (x156 : Bool) : Option ((Int × Int) ⊕ (Int × Int × Int)) :=
  cond x156 ((X_vint_Get_J2 3).map Sum.inr) (cond (decide (y135 < 128)) (grd ((0 : Int) ≤ (w64 (7 * x96))) <| (some ((bits .or .u64 x95 (wu64 ((wu64 y135) * 2 ^ (min (Int.toNat (w64 (7 * x96))) 64)))), (w64 ((w64 (p1 + x96)) + 1)), 0)).map Sum.inr) (grd ((0 : Int) ≤ (w64 (7 * x96))) <| some (.inl ((bits .or .u64 x95 (wu64 ((wu64 (bits .and .u8 y135 127)) * 2 ^ (min (Int.toNat (w64 (7 * x96))) 64)))), (w64 (x96 + 1))))))
noncomputable def X_vint_Get_J4 (p1 : Int) (x95 : Int) (x96 : Int) (y135 : Int) (x167 : Bool) : Option ((Int × Int) ⊕ (Int × Int × Int)) :=
  cond x167 (X_vint_Get_J3 p1 x95 x96 y135 x167) (cond (decide (0 < x96)) (X_vint_Get_J3 p1 x95 x96 y135 (y135 == 0)) (X_vint_Get_J3 p1 x95 x96 y135 false))
noncomputable def X_vint_Get_L5 (p0 : ByteArray) (p1 : Int) (x95 : Int) (x96 : Int) : Option ((Int × Int) ⊕ (Int × Int × Int)) :=
  cond (decide (x96 < (((sB (p0.extract (Int.toNat p1) (Int.toNat (p0.size : Int))))).length : Int))) ((lAt (sB (p0.extract (Int.toNat p1) (Int.toNat (p0.size : Int)))) x96).bind fun y135 => cond (x96 == 9) (X_vint_Get_J4 p1 x95 x96 y135 (decide (1 < y135))) (X_vint_Get_J4 p1 x95 x96 y135 false)) ((X_vint_Get_J2 2).map Sum.inr)
noncomputable def X_vint_Get_J1 (p0 : ByteArray) (p1 : Int) (x6 : Bool) : Option (Int × Int × Int) :=
  cond x6 (some (0, 0, 1)) (grd ((0 : Int) ≤ p1 ∧ p1 ≤ (p0.size : Int) ∧ (p0.size : Int) ≤ (p0.size : Int)) <| grd ((p0.extract (Int.toNat p1) (Int.toNat (p0.size : Int))).size ≤ 281474976710656) <| Loopx (fun s : (Int × Int) => X_vint_Get_L5 p0 p1 s.1 s.2) (0, 0))
noncomputable def X_vint_Get (p0 : ByteArray) (p1 : Int) : Option (Int × Int × Int) :=
  cond (decide (p1 < 0)) (X_vint_Get_J1 p0 p1 true) (X_vint_Get_J1 p0 p1 (decide ((p0.size : Int) < p1)))
noncomputable def X_vint_Zag (p0 : Int) : Option (Int) :=
  some (bits .xor .i64 (w64 (Int.fdiv p0 2)) (w64 (0 - (w64 (bits .and .u64 p0 1)))))
noncomputable def X_vint_GetInt (p0 : ByteArray) (p1 : Int) : Option (Int × Int × Int) :=
  (X_vint_Get p0 p1).bind fun y2 => (X_vint_Zag y2.1).bind fun y4 => some (y4, y2.2.1, y2.2.2)
noncomputable def X_wire_Reader_Int_1 (p0 : ByteArray) (o0_0 : Int) : Option (Int × Int × Int) :=
  (X_vint_GetInt p0 0).bind fun y2 => some (y2.2.1, y2.2.2, y2.1)
noncomputable def X_wire_Reader_step (o0 : T_wire_Reader) (o1_0 : Int) : Option (Bool × T_wire_Reader × Int) :=
  cond (o0.e != 0) (some (false, o0, o1_0)) ((X_wire_Reader_Int_1 o0.s o1_0).bind fun y4 => cond (y4.2.1 != 0) (some (false, (⟨o0.s, y4.2.1⟩ : T_wire_Reader), y4.2.2)) (grd ((0 : Int) ≤ y4.1 ∧ y4.1 ≤ (o0.s.size : Int) ∧ (o0.s.size : Int) ≤ (o0.s.size : Int)) <| some (true, (⟨(o0.s.extract (Int.toNat y4.1) (Int.toNat (o0.s.size : Int))), o0.e⟩ : T_wire_Reader), y4.2.2)))
noncomputable def X_wire_Reader_Int (o0 : T_wire_Reader) : Option (Int × T_wire_Reader) :=
  (X_wire_Reader_step o0 0).bind fun y2 => some (y2.2.2, y2.2.1)
noncomputable def X_dump_reader_into (o0 : T_wire_Reader) (o2 : T_api_State) : Option (T_wire_Reader × T_api_State) :=
  (X_wire_Reader_Int o0).bind fun y2 => (X_wire_Reader_Int y2.2).bind fun y4 => (X_wire_Reader_Int y4.2).bind fun y6 => (X_wire_Reader_Int y6.2).bind fun y8 => (X_wire_Reader_Int y8.2).bind fun y10 => some (y10.2, (⟨y2.1, y4.1, y6.1, y8.1, y10.1, o2.Procs, o2.Out⟩ : T_api_State))
noncomputable def X_wire_Reader_Upto_1_J1 (y2 : Int × Int × Int) (x11 : Bool) : Option (Int × Int × Int) :=
  cond x11 (some (0, 6, y2.1)) (some (y2.2.1, y2.2.2, y2.1))
noncomputable def X_wire_Reader_Upto_1 (p0 : ByteArray) (o0_0 : Int) (o1_0 : Int) : Option (Int × Int × Int) :=
  (X_vint_Get p0 0).bind fun y2 => cond (y2.2.2 == 0) (cond (decide (o1_0 < 0)) (X_wire_Reader_Upto_1_J1 y2 true) (X_wire_Reader_Upto_1_J1 y2 (decide ((wu64 o1_0) < y2.1)))) (X_wire_Reader_Upto_1_J1 y2 false)
noncomputable def X_wire_Reader_step_v2 (o0 : T_wire_Reader) (o1_0 : Int) (o2_0 : Int) : Option (Bool × T_wire_Reader × Int) :=
  cond (o0.e != 0) (some (false, o0, o1_0)) ((X_wire_Reader_Upto_1 o0.s o1_0 o2_0).bind fun y4 => cond (y4.2.1 != 0) (some (false, (⟨o0.s, y4.2.1⟩ : T_wire_Reader), y4.2.2)) (grd ((0 : Int) ≤ y4.1 ∧ y4.1 ≤ (o0.s.size : Int) ∧ (o0.s.size : Int) ≤ (o0.s.size : Int)) <| some (true, (⟨(o0.s.extract (Int.toNat y4.1) (Int.toNat (o0.s.size : Int))), o0.e⟩ : T_wire_Reader), y4.2.2)))
noncomputable def X_wire_Reader_Upto (p1 : Int) (o0 : T_wire_Reader) : Option (Int × T_wire_Reader) :=
  (X_wire_Reader_step_v2 o0 0 p1).bind fun y2 => cond (!y2.1) (some (0, y2.2.1)) (some ((w64 y2.2.2), y2.2.1))
noncomputable def X_wire_Reader_Err (o0 : T_wire_Reader) : Option (Int) :=
  some o0.e
noncomputable def X_dump_reader_into_v2 (o0 : T_wire_Reader) (o2 : T_api_Proc) : Option (T_wire_Reader × T_api_Proc) :=
  (X_wire_Reader_Int o0).bind fun y2 => (X_wire_Reader_Int y2.2).bind fun y4 => some (y4.2, (⟨y2.1, y4.1, o2.Vars, o2.Fuel, o2.Mode, o2.Chan, o2.Val, o2.Slot, o2.Until, o2.Since, o2.Alts⟩ : T_api_Proc))
noncomputable def X_wire_Reader_Ints_J1 (x24 : ByteArray) (x25 : Int) (x26 : (List Int)) (x37 : Bool) : Option ((ByteArray × Int × (List Int)) ⊕ ((List Int) × T_wire_Reader)) :=
  cond x37 ((X_wire_Reader_Int (⟨x24, x25⟩ : T_wire_Reader)).bind fun y39 => grd (((x26).length + ([y39.1]).length) * 8 ≤ 140737488355328) <| some (.inl (y39.2.s, y39.2.e, (x26 ++ [y39.1])))) (((X_wire_Reader_Err (⟨x24, x25⟩ : T_wire_Reader)).bind fun y47 => cond (y47 != 0) (some (([] : List Int), (⟨x24, x25⟩ : T_wire_Reader))) (some (x26, (⟨x24, x25⟩ : T_wire_Reader)))).map Sum.inr)
noncomputable def X_wire_Reader_Ints_L2 (y2 : Int × T_wire_Reader) (x24 : ByteArray) (x25 : Int) (x26 : (List Int)) : Option ((ByteArray × Int × (List Int)) ⊕ ((List Int) × T_wire_Reader)) :=
  cond (decide (((x26).length : Int) < y2.1)) ((X_wire_Reader_Err (⟨x24, x25⟩ : T_wire_Reader)).bind fun y50 => X_wire_Reader_Ints_J1 x24 x25 x26 (y50 == 0)) (X_wire_Reader_Ints_J1 x24 x25 x26 false)
noncomputable def X_wire_Reader_Ints (p1 : Int) (o0 : T_wire_Reader) : Option ((List Int) × T_wire_Reader) :=
  (X_wire_Reader_Upto p1 o0).bind fun y2 => Loopx (fun s : (ByteArray × Int × (List Int)) => X_wire_Reader_Ints_L2 y2 s.1 s.2.1 s.2.2) (y2.2.s, y2.2.e, ([] : (List Int)))
noncomputable def X_dump_reader_into_v3 (o0 : T_wire_Reader) (o2 : T_api_Proc) : Option (T_wire_Reader × T_api_Proc) :=
  (X_wire_Reader_Int o0).bind fun y2 => (X_wire_Reader_Int y2.2).bind fun y4 => (X_wire_Reader_Int y4.2).bind fun y6 => (X_wire_Reader_Int y6.2).bind fun y8 => (X_wire_Reader_Int y8.2).bind fun y10 => (X_wire_Reader_Int y10.2).bind fun y12 => (X_wire_Reader_Int y12.2).bind fun y14 => some (y14.2, (⟨o2.Def, o2.At, o2.Vars, y2.1, y4.1, y6.1, y8.1, y10.1, y12.1, y14.1, o2.Alts⟩ : T_api_Proc))
noncomputable def X_dump_reader_into_v4 (o0 : T_wire_Reader) (o2 : T_api_Alt) : Option (T_wire_Reader × T_api_Alt) :=
  (X_wire_Reader_Int o0).bind fun y2 => (X_wire_Reader_Int y2.2).bind fun y4 => (X_wire_Reader_Int y4.2).bind fun y6 => (X_wire_Reader_Int y6.2).bind fun y8 => (X_wire_Reader_Int y8.2).bind fun y10 => some (y10.2, (⟨y2.1, y4.1, y6.1, y8.1, y10.1⟩ : T_api_Alt))
noncomputable def X_dump_reader_proc_1 (o1 : T_wire_Reader) (o2 : T_api_Proc) : Option (T_wire_Reader × T_api_Proc) :=
  (X_dump_reader_into_v4 o1 (⟨0, 0, 0, 0, 0⟩ : T_api_Alt)).bind fun y2 => grd (((o2.Alts).length + ([y2.2]).length) * 40 ≤ 140737488355328) <| some (y2.1, (⟨o2.Def, o2.At, o2.Vars, o2.Fuel, o2.Mode, o2.Chan, o2.Val, o2.Slot, o2.Until, o2.Since, (o2.Alts ++ [y2.2])⟩ : T_api_Proc))
noncomputable def X_dump_reader_each_v2_J1 (x3 : Int) (x4 : ByteArray) (x5 : Int) (x6 : Int) (x7 : Int) (x8 : Int) (x9 : Int) (x10 : Int) (x11 : Int) (x12 : Int) (x13 : Int) (x14 : Int) (x15 : (List Int)) (x16 : (List T_api_Alt)) (x27 : Bool) : Option ((Int × ByteArray × Int × Int × Int × Int × Int × Int × Int × Int × Int × Int × (List Int) × (List T_api_Alt)) ⊕ (T_wire_Reader × T_api_Proc)) :=
  cond x27 ((X_dump_reader_proc_1 (⟨x4, x5⟩ : T_wire_Reader) (⟨x6, x7, x15, x8, x9, x10, x11, x12, x13, x14, x16⟩ : T_api_Proc)).bind fun y30 => some (.inl ((w64 (x3 + 1)), y30.1.s, y30.1.e, y30.2.Def, y30.2.At, y30.2.Fuel, y30.2.Mode, y30.2.Chan, y30.2.Val, y30.2.Slot, y30.2.Until, y30.2.Since, y30.2.Vars, y30.2.Alts))) ((some ((⟨x4, x5⟩ : T_wire_Reader), (⟨x6, x7, x15, x8, x9, x10, x11, x12, x13, x14, x16⟩ : T_api_Proc))).map Sum.inr)
noncomputable def X_dump_reader_each_v2_L2 (y2 : Int × T_wire_Reader) (x3 : Int) (x4 : ByteArray) (x5 : Int) (x6 : Int) (x7 : Int) (x8 : Int) (x9 : Int) (x10 : Int) (x11 : Int) (x12 : Int) (x13 : Int) (x14 : Int) (x15 : (List Int)) (x16 : (List T_api_Alt)) : Option ((Int × ByteArray × Int × Int × Int × Int × Int × Int × Int × Int × Int × Int × (List Int) × (List T_api_Alt)) ⊕ (T_wire_Reader × T_api_Proc)) :=
  cond (decide (x3 < y2.1)) ((X_wire_Reader_Err (⟨x4, x5⟩ : T_wire_Reader)).bind fun y34 => X_dump_reader_each_v2_J1 x3 x4 x5 x6 x7 x8 x9 x10 x11 x12 x13 x14 x15 x16 (y34 == 0)) (X_dump_reader_each_v2_J1 x3 x4 x5 x6 x7 x8 x9 x10 x11 x12 x13 x14 x15 x16 false)
noncomputable def X_dump_reader_each_v2 (o0 : T_wire_Reader) (o2 : T_api_Proc) : Option (T_wire_Reader × T_api_Proc) :=
  (X_wire_Reader_Upto 4096 o0).bind fun y2 => Loopx (fun s : (Int × ByteArray × Int × Int × Int × Int × Int × Int × Int × Int × Int × Int × (List Int) × (List T_api_Alt)) => X_dump_reader_each_v2_L2 y2 s.1 s.2.1 s.2.2.1 s.2.2.2.1 s.2.2.2.2.1 s.2.2.2.2.2.1 s.2.2.2.2.2.2.1 s.2.2.2.2.2.2.2.1 s.2.2.2.2.2.2.2.2.1 s.2.2.2.2.2.2.2.2.2.1 s.2.2.2.2.2.2.2.2.2.2.1 s.2.2.2.2.2.2.2.2.2.2.2.1 s.2.2.2.2.2.2.2.2.2.2.2.2.1 s.2.2.2.2.2.2.2.2.2.2.2.2.2) (0, y2.2.s, y2.2.e, o2.Def, o2.At, o2.Fuel, o2.Mode, o2.Chan, o2.Val, o2.Slot, o2.Until, o2.Since, o2.Vars, o2.Alts)
noncomputable def X_dump_reader_proc (o0 : T_wire_Reader) : Option (T_api_Proc × T_wire_Reader) :=
  (X_dump_reader_into_v2 o0 (⟨0, 0, ([] : List Int), 0, 0, 0, 0, 0, 0, 0, ([] : List T_api_Alt)⟩ : T_api_Proc)).bind fun y2 => (X_wire_Reader_Ints 4096 y2.1).bind fun y4 => (X_dump_reader_into_v3 y4.2 (⟨y2.2.Def, y2.2.At, y4.1, y2.2.Fuel, y2.2.Mode, y2.2.Chan, y2.2.Val, y2.2.Slot, y2.2.Until, y2.2.Since, y2.2.Alts⟩ : T_api_Proc)).bind fun y6 => (X_dump_reader_each_v2 y6.1 y6.2).bind fun y8 => some (y8.2, y8.1)
noncomputable def X_dump_Read_1 (o0 : T_api_State) (o4 : T_wire_Reader) : Option (T_api_State × T_wire_Reader) :=
  (X_dump_reader_proc o4).bind fun y1 => grd (((o0.Procs).length + ([y1.1]).length) * 120 ≤ 140737488355328) <| some ((⟨o0.Now, o0.Since, o0.Halt, o0.Fault, o0.Who, (o0.Procs ++ [y1.1]), o0.Out⟩ : T_api_State), y1.2)
noncomputable def X_dump_reader_each_J1 (x3 : Int) (x4 : ByteArray) (x5 : Int) (x6 : Int) (x7 : Int) (x8 : Int) (x9 : Int) (x10 : Int) (x11 : (List T_api_Proc)) (x12 : (List Int)) (x23 : Bool) : Option ((Int × ByteArray × Int × Int × Int × Int × Int × Int × (List T_api_Proc) × (List Int)) ⊕ (T_wire_Reader × T_api_State)) :=
  cond x23 ((X_dump_Read_1 (⟨x6, x7, x8, x9, x10, x11, x12⟩ : T_api_State) (⟨x4, x5⟩ : T_wire_Reader)).bind fun y26 => some (.inl ((w64 (x3 + 1)), y26.2.s, y26.2.e, y26.1.Now, y26.1.Since, y26.1.Halt, y26.1.Fault, y26.1.Who, y26.1.Procs, y26.1.Out))) ((some ((⟨x4, x5⟩ : T_wire_Reader), (⟨x6, x7, x8, x9, x10, x11, x12⟩ : T_api_State))).map Sum.inr)
noncomputable def X_dump_reader_each_L2 (y2 : Int × T_wire_Reader) (x3 : Int) (x4 : ByteArray) (x5 : Int) (x6 : Int) (x7 : Int) (x8 : Int) (x9 : Int) (x10 : Int) (x11 : (List T_api_Proc)) (x12 : (List Int)) : Option ((Int × ByteArray × Int × Int × Int × Int × Int × Int × (List T_api_Proc) × (List Int)) ⊕ (T_wire_Reader × T_api_State)) :=
  cond (decide (x3 < y2.1)) ((X_wire_Reader_Err (⟨x4, x5⟩ : T_wire_Reader)).bind fun y30 => X_dump_reader_each_J1 x3 x4 x5 x6 x7 x8 x9 x10 x11 x12 (y30 == 0)) (X_dump_reader_each_J1 x3 x4 x5 x6 x7 x8 x9 x10 x11 x12 false)
noncomputable def X_dump_reader_each (o0 : T_wire_Reader) (o1 : T_api_State) : Option (T_wire_Reader × T_api_State) :=
  (X_wire_Reader_Upto 4096 o0).bind fun y2 => Loopx (fun s : (Int × ByteArray × Int × Int × Int × Int × Int × Int × (List T_api_Proc) × (List Int)) => X_dump_reader_each_L2 y2 s.1 s.2.1 s.2.2.1 s.2.2.2.1 s.2.2.2.2.1 s.2.2.2.2.2.1 s.2.2.2.2.2.2.1 s.2.2.2.2.2.2.2.1 s.2.2.2.2.2.2.2.2.1 s.2.2.2.2.2.2.2.2.2) (0, y2.2.s, y2.2.e, o1.Now, o1.Since, o1.Halt, o1.Fault, o1.Who, o1.Procs, o1.Out)
noncomputable def X_dump_Read (o0 : T_wire_Reader) : Option (T_api_State × T_wire_Reader) :=
  (X_dump_reader_into o0 (⟨0, 0, 0, 0, 0, ([] : List T_api_Proc), ([] : List Int)⟩ : T_api_State)).bind fun y2 => (X_dump_reader_each y2.1 y2.2).bind fun y4 => (X_wire_Reader_Ints 1048576 y4.1).bind fun y6 => (X_wire_Reader_Err y6.2).bind fun y11 => cond (y11 != 0) (some ((⟨0, 0, 0, 0, 0, ([] : List T_api_Proc), ([] : List Int)⟩ : T_api_State), y6.2)) (some ((⟨y4.2.Now, y4.2.Since, y4.2.Halt, y4.2.Fault, y4.2.Who, y4.2.Procs, y6.1⟩ : T_api_State), y6.2))
noncomputable def X_wire_Reader_Left (o0 : T_wire_Reader) : Option (Int) :=
  some (o0.s.size : Int)
noncomputable def X_wire_Reader_End_J1 (y10 : Int) (x13 : Bool) : Option (Int) :=
  cond x13 (some y10) (some 3)
noncomputable def X_wire_Reader_End (o0 : T_wire_Reader) : Option (Int) :=
  (X_wire_Reader_Err o0).bind fun y10 => cond (y10 != 0) (X_wire_Reader_End_J1 y10 true) ((X_wire_Reader_Left o0).bind fun y16 => X_wire_Reader_End_J1 y10 (y16 == 0))
noncomputable def X_dump_Get (p0 : ByteArray) : Option (T_api_State × Int) :=
  (X_wire_Open p0).bind fun y2 => (X_dump_Read y2).bind fun y4 => (X_wire_Reader_End y4.2).bind fun y9 => cond (y9 != 0) (some ((⟨0, 0, 0, 0, 0, ([] : List T_api_Proc), ([] : List Int)⟩ : T_api_State), y9)) (some (y4.1, 0))
noncomputable def X_dump_Put_v2_L1 (p0 : T_api_State) (x19 : Int) (x20 : (List Int)) : Option ((Int × (List Int)) ⊕ (ByteArray)) :=
  cond (decide (x19 < ((p0.Procs).length : Int))) ((lAt p0.Procs x19).bind fun y29 => (X_dump_writer_proc y29 (⟨x20⟩ : T_wire_Writer)).bind fun y30 => some (.inl ((w64 (x19 + 1)), y30.s))) (((X_wire_Writer_Ints p0.Out (⟨x20⟩ : T_wire_Writer)).bind fun y34 => (X_wire_Writer_Bytes y34).bind fun y36 => some y36).map Sum.inr)
noncomputable def X_dump_Put_v2 (p0 : T_api_State) : Option (ByteArray) :=
  (X_dump_writer_ints (⟨([] : List Int)⟩ : T_wire_Writer) ([p0.Now, p0.Since, p0.Halt, p0.Fault, p0.Who])).bind fun y2 => (X_wire_Writer_Num (wu64 ((p0.Procs).length : Int)) y2).bind fun y4 => Loopx (fun s : (Int × (List Int)) => X_dump_Put_v2_L1 p0 s.1 s.2) (0, y4.s)
noncomputable def X_retracelaw30_live_J1 (x9 : Bool) : Option (Bool) :=
  some x9
noncomputable def X_retracelaw30_live  : Option (Bool) :=
  (X_dump_Put 3 0 0 0 0 ([] : List T_api_Proc) ([4])).bind fun y3 => (X_dump_Get y3).bind fun y4 => (X_dump_Put_v2 (⟨0, 0, 0, 0, 0, ([] : (List T_api_Proc)), ([] : (List Int))⟩ : T_api_State)).bind fun y10 => cond (y10.toList == (⟨#[0, 0, 0, 0, 0, 0, 0]⟩ : ByteArray).toList) (cond (y4.1.Now == 3) (cond (((y4.1.Out).length : Int) == 1) (X_retracelaw30_live_J1 (y4.2 == 0)) (X_retracelaw30_live_J1 false)) (X_retracelaw30_live_J1 false)) (X_retracelaw30_live_J1 false)
theorem LE_vint_Zig (p0 : Int) : Le (X_vint_Zig p0) (F_vint_Zig p0) := by
  unfold X_vint_Zig F_vint_Zig
  repeat' with_reducible first
    | exact Le.non _
    | exact Le.rf _
    | refine Le.grd ?_
    | refine Le.bind ?_ (fun _ => ?_)
    | refine Le.cond ?_ ?_
    | refine Le.map ?_
    | refine Le.elim (fun _ => ?_) (fun _ => ?_)
    | refine Le.loop (fun _ => ?_)
    | refine Le.loopF (fun _ => ?_)
theorem LE_vint_Size_L1 (x9 : Int) (x10 : Int) : Le (X_vint_Size_L1 x9 x10) (F_vint_Size_L1 x9 x10) := by
  unfold X_vint_Size_L1 F_vint_Size_L1
  repeat' with_reducible first
    | exact Le.non _
    | exact Le.rf _
    | refine Le.grd ?_
    | refine Le.bind ?_ (fun _ => ?_)
    | refine Le.cond ?_ ?_
    | refine Le.map ?_
    | refine Le.elim (fun _ => ?_) (fun _ => ?_)
    | refine Le.loop (fun _ => ?_)
    | refine Le.loopF (fun _ => ?_)
theorem LE_vint_Size (p0 : Int) : Le (X_vint_Size p0) (F_vint_Size p0) := by
  unfold X_vint_Size F_vint_Size
  repeat' with_reducible first
    | apply LE_vint_Size_L1
    | exact Le.non _
    | exact Le.rf _
    | refine Le.grd ?_
    | refine Le.bind ?_ (fun _ => ?_)
    | refine Le.cond ?_ ?_
    | refine Le.map ?_
    | refine Le.elim (fun _ => ?_) (fun _ => ?_)
    | refine Le.loop (fun _ => ?_)
    | refine Le.loopF (fun _ => ?_)
theorem LE_vint_Put_L1 (x17 : Int) (x18 : (List Int)) : Le (X_vint_Put_L1 x17 x18) (F_vint_Put_L1 x17 x18) := by
  unfold X_vint_Put_L1 F_vint_Put_L1
  repeat' with_reducible first
    | exact Le.non _
    | exact Le.rf _
    | refine Le.grd ?_
    | refine Le.bind ?_ (fun _ => ?_)
    | refine Le.cond ?_ ?_
    | refine Le.map ?_
    | refine Le.elim (fun _ => ?_) (fun _ => ?_)
    | refine Le.loop (fun _ => ?_)
    | refine Le.loopF (fun _ => ?_)
theorem LE_vint_Put (p0 : ByteArray) (p1 : Int) : Le (X_vint_Put p0 p1) (F_vint_Put p0 p1) := by
  unfold X_vint_Put F_vint_Put
  repeat' with_reducible first
    | apply LE_vint_Size
    | apply LE_vint_Put_L1
    | exact Le.non _
    | exact Le.rf _
    | refine Le.grd ?_
    | refine Le.bind ?_ (fun _ => ?_)
    | refine Le.cond ?_ ?_
    | refine Le.map ?_
    | refine Le.elim (fun _ => ?_) (fun _ => ?_)
    | refine Le.loop (fun _ => ?_)
    | refine Le.loopF (fun _ => ?_)
theorem LE_vint_PutInt (p0 : ByteArray) (p1 : Int) : Le (X_vint_PutInt p0 p1) (F_vint_PutInt p0 p1) := by
  unfold X_vint_PutInt F_vint_PutInt
  repeat' with_reducible first
    | apply LE_vint_Zig
    | apply LE_vint_Put
    | exact Le.non _
    | exact Le.rf _
    | refine Le.grd ?_
    | refine Le.bind ?_ (fun _ => ?_)
    | refine Le.cond ?_ ?_
    | refine Le.map ?_
    | refine Le.elim (fun _ => ?_) (fun _ => ?_)
    | refine Le.loop (fun _ => ?_)
    | refine Le.loopF (fun _ => ?_)
theorem LE_wire_Writer_add (p1 : ByteArray) (o0 : T_wire_Writer) : Le (X_wire_Writer_add p1 o0) (F_wire_Writer_add p1 o0) := by
  unfold X_wire_Writer_add F_wire_Writer_add
  repeat' with_reducible first
    | exact Le.non _
    | exact Le.rf _
    | refine Le.grd ?_
    | refine Le.bind ?_ (fun _ => ?_)
    | refine Le.cond ?_ ?_
    | refine Le.map ?_
    | refine Le.elim (fun _ => ?_) (fun _ => ?_)
    | refine Le.loop (fun _ => ?_)
    | refine Le.loopF (fun _ => ?_)
theorem LE_wire_Writer_Int (p1 : Int) (o0 : T_wire_Writer) : Le (X_wire_Writer_Int p1 o0) (F_wire_Writer_Int p1 o0) := by
  unfold X_wire_Writer_Int F_wire_Writer_Int
  repeat' with_reducible first
    | apply LE_vint_PutInt
    | apply LE_wire_Writer_add
    | exact Le.non _
    | exact Le.rf _
    | refine Le.grd ?_
    | refine Le.bind ?_ (fun _ => ?_)
    | refine Le.cond ?_ ?_
    | refine Le.map ?_
    | refine Le.elim (fun _ => ?_) (fun _ => ?_)
    | refine Le.loop (fun _ => ?_)
    | refine Le.loopF (fun _ => ?_)
theorem LE_dump_writer_ints_L1 (o2 : (List Int)) (x1 : Int) (x2 : (List Int)) : Le (X_dump_writer_ints_L1 o2 x1 x2) (F_dump_writer_ints_L1 o2 x1 x2) := by
  unfold X_dump_writer_ints_L1 F_dump_writer_ints_L1
  repeat' with_reducible first
    | apply LE_wire_Writer_Int
    | exact Le.non _
    | exact Le.rf _
    | refine Le.grd ?_
    | refine Le.bind ?_ (fun _ => ?_)
    | refine Le.cond ?_ ?_
    | refine Le.map ?_
    | refine Le.elim (fun _ => ?_) (fun _ => ?_)
    | refine Le.loop (fun _ => ?_)
    | refine Le.loopF (fun _ => ?_)
theorem LE_dump_writer_ints (o0 : T_wire_Writer) (o2 : (List Int)) : Le (X_dump_writer_ints o0 o2) (F_dump_writer_ints o0 o2) := by
  unfold X_dump_writer_ints F_dump_writer_ints
  repeat' with_reducible first
    | apply LE_dump_writer_ints_L1
    | exact Le.non _
    | exact Le.rf _
    | refine Le.grd ?_
    | refine Le.bind ?_ (fun _ => ?_)
    | refine Le.cond ?_ ?_
    | refine Le.map ?_
    | refine Le.elim (fun _ => ?_) (fun _ => ?_)
    | refine Le.loop (fun _ => ?_)
    | refine Le.loopF (fun _ => ?_)
theorem LE_wire_Writer_Num (p1 : Int) (o0 : T_wire_Writer) : Le (X_wire_Writer_Num p1 o0) (F_wire_Writer_Num p1 o0) := by
  unfold X_wire_Writer_Num F_wire_Writer_Num
  repeat' with_reducible first
    | apply LE_vint_Put
    | apply LE_wire_Writer_add
    | exact Le.non _
    | exact Le.rf _
    | refine Le.grd ?_
    | refine Le.bind ?_ (fun _ => ?_)
    | refine Le.cond ?_ ?_
    | refine Le.map ?_
    | refine Le.elim (fun _ => ?_) (fun _ => ?_)
    | refine Le.loop (fun _ => ?_)
    | refine Le.loopF (fun _ => ?_)
theorem LE_wire_Writer_Ints_L1 (p1 : (List Int)) (x3 : Int) (x4 : (List Int)) : Le (X_wire_Writer_Ints_L1 p1 x3 x4) (F_wire_Writer_Ints_L1 p1 x3 x4) := by
  unfold X_wire_Writer_Ints_L1 F_wire_Writer_Ints_L1
  repeat' with_reducible first
    | apply LE_wire_Writer_Int
    | exact Le.non _
    | exact Le.rf _
    | refine Le.grd ?_
    | refine Le.bind ?_ (fun _ => ?_)
    | refine Le.cond ?_ ?_
    | refine Le.map ?_
    | refine Le.elim (fun _ => ?_) (fun _ => ?_)
    | refine Le.loop (fun _ => ?_)
    | refine Le.loopF (fun _ => ?_)
theorem LE_wire_Writer_Ints (p1 : (List Int)) (o0 : T_wire_Writer) : Le (X_wire_Writer_Ints p1 o0) (F_wire_Writer_Ints p1 o0) := by
  unfold X_wire_Writer_Ints F_wire_Writer_Ints
  repeat' with_reducible first
    | apply LE_wire_Writer_Num
    | apply LE_wire_Writer_Ints_L1
    | exact Le.non _
    | exact Le.rf _
    | refine Le.grd ?_
    | refine Le.bind ?_ (fun _ => ?_)
    | refine Le.cond ?_ ?_
    | refine Le.map ?_
    | refine Le.elim (fun _ => ?_) (fun _ => ?_)
    | refine Le.loop (fun _ => ?_)
    | refine Le.loopF (fun _ => ?_)
theorem LE_dump_writer_proc_L1 (p1 : T_api_Proc) (x9 : Int) (x10 : (List Int)) : Le (X_dump_writer_proc_L1 p1 x9 x10) (F_dump_writer_proc_L1 p1 x9 x10) := by
  unfold X_dump_writer_proc_L1 F_dump_writer_proc_L1
  repeat' with_reducible first
    | apply LE_dump_writer_ints
    | exact Le.non _
    | exact Le.rf _
    | refine Le.grd ?_
    | refine Le.bind ?_ (fun _ => ?_)
    | refine Le.cond ?_ ?_
    | refine Le.map ?_
    | refine Le.elim (fun _ => ?_) (fun _ => ?_)
    | refine Le.loop (fun _ => ?_)
    | refine Le.loopF (fun _ => ?_)
theorem LE_dump_writer_proc (p1 : T_api_Proc) (o0 : T_wire_Writer) : Le (X_dump_writer_proc p1 o0) (F_dump_writer_proc p1 o0) := by
  unfold X_dump_writer_proc F_dump_writer_proc
  repeat' with_reducible first
    | apply LE_dump_writer_ints
    | apply LE_wire_Writer_Ints
    | apply LE_wire_Writer_Num
    | apply LE_dump_writer_proc_L1
    | exact Le.non _
    | exact Le.rf _
    | refine Le.grd ?_
    | refine Le.bind ?_ (fun _ => ?_)
    | refine Le.cond ?_ ?_
    | refine Le.map ?_
    | refine Le.elim (fun _ => ?_) (fun _ => ?_)
    | refine Le.loop (fun _ => ?_)
    | refine Le.loopF (fun _ => ?_)
theorem LE_wire_Writer_Bytes (o0 : T_wire_Writer) : Le (X_wire_Writer_Bytes o0) (F_wire_Writer_Bytes o0) := by
  unfold X_wire_Writer_Bytes F_wire_Writer_Bytes
  repeat' with_reducible first
    | exact Le.non _
    | exact Le.rf _
    | refine Le.grd ?_
    | refine Le.bind ?_ (fun _ => ?_)
    | refine Le.cond ?_ ?_
    | refine Le.map ?_
    | refine Le.elim (fun _ => ?_) (fun _ => ?_)
    | refine Le.loop (fun _ => ?_)
    | refine Le.loopF (fun _ => ?_)
theorem LE_dump_Put_L1 (p0_5 : (List T_api_Proc)) (o0 : (List Int)) (x19 : Int) (x20 : (List Int)) : Le (X_dump_Put_L1 p0_5 o0 x19 x20) (F_dump_Put_L1 p0_5 o0 x19 x20) := by
  unfold X_dump_Put_L1 F_dump_Put_L1
  repeat' with_reducible first
    | apply LE_dump_writer_proc
    | apply LE_wire_Writer_Ints
    | apply LE_wire_Writer_Bytes
    | exact Le.non _
    | exact Le.rf _
    | refine Le.grd ?_
    | refine Le.bind ?_ (fun _ => ?_)
    | refine Le.cond ?_ ?_
    | refine Le.map ?_
    | refine Le.elim (fun _ => ?_) (fun _ => ?_)
    | refine Le.loop (fun _ => ?_)
    | refine Le.loopF (fun _ => ?_)
theorem LE_dump_Put (p0_0 : Int) (p0_1 : Int) (p0_2 : Int) (p0_3 : Int) (p0_4 : Int) (p0_5 : (List T_api_Proc)) (o0 : (List Int)) : Le (X_dump_Put p0_0 p0_1 p0_2 p0_3 p0_4 p0_5 o0) (F_dump_Put p0_0 p0_1 p0_2 p0_3 p0_4 p0_5 o0) := by
  unfold X_dump_Put F_dump_Put
  repeat' with_reducible first
    | apply LE_dump_writer_ints
    | apply LE_wire_Writer_Num
    | apply LE_dump_Put_L1
    | exact Le.non _
    | exact Le.rf _
    | refine Le.grd ?_
    | refine Le.bind ?_ (fun _ => ?_)
    | refine Le.cond ?_ ?_
    | refine Le.map ?_
    | refine Le.elim (fun _ => ?_) (fun _ => ?_)
    | refine Le.loop (fun _ => ?_)
    | refine Le.loopF (fun _ => ?_)
theorem LE_wire_Open (p0 : ByteArray) : Le (X_wire_Open p0) (F_wire_Open p0) := by
  unfold X_wire_Open F_wire_Open
  repeat' with_reducible first
    | exact Le.non _
    | exact Le.rf _
    | refine Le.grd ?_
    | refine Le.bind ?_ (fun _ => ?_)
    | refine Le.cond ?_ ?_
    | refine Le.map ?_
    | refine Le.elim (fun _ => ?_) (fun _ => ?_)
    | refine Le.loop (fun _ => ?_)
    | refine Le.loopF (fun _ => ?_)
theorem LE_vint_Get_J2 (x90 : Int) : Le (X_vint_Get_J2 x90) (F_vint_Get_J2 x90) := by
  unfold X_vint_Get_J2 F_vint_Get_J2
  repeat' with_reducible first
    | exact Le.non _
    | exact Le.rf _
    | refine Le.grd ?_
    | refine Le.bind ?_ (fun _ => ?_)
    | refine Le.cond ?_ ?_
    | refine Le.map ?_
    | refine Le.elim (fun _ => ?_) (fun _ => ?_)
    | refine Le.loop (fun _ => ?_)
    | refine Le.loopF (fun _ => ?_)
theorem LE_vint_Get_J3 (p1 : Int) (x95 : Int) (x96 : Int) (y135 : Int) (x156 : Bool) : Le (X_vint_Get_J3 p1 x95 x96 y135 x156) (F_vint_Get_J3 p1 x95 x96 y135 x156) := by
  unfold X_vint_Get_J3 F_vint_Get_J3
  repeat' with_reducible first
    | apply LE_vint_Get_J2
    | exact Le.non _
    | exact Le.rf _
    | refine Le.grd ?_
    | refine Le.bind ?_ (fun _ => ?_)
    | refine Le.cond ?_ ?_
    | refine Le.map ?_
    | refine Le.elim (fun _ => ?_) (fun _ => ?_)
    | refine Le.loop (fun _ => ?_)
    | refine Le.loopF (fun _ => ?_)
theorem LE_vint_Get_J4 (p1 : Int) (x95 : Int) (x96 : Int) (y135 : Int) (x167 : Bool) : Le (X_vint_Get_J4 p1 x95 x96 y135 x167) (F_vint_Get_J4 p1 x95 x96 y135 x167) := by
  unfold X_vint_Get_J4 F_vint_Get_J4
  repeat' with_reducible first
    | apply LE_vint_Get_J3
    | exact Le.non _
    | exact Le.rf _
    | refine Le.grd ?_
    | refine Le.bind ?_ (fun _ => ?_)
    | refine Le.cond ?_ ?_
    | refine Le.map ?_
    | refine Le.elim (fun _ => ?_) (fun _ => ?_)
    | refine Le.loop (fun _ => ?_)
    | refine Le.loopF (fun _ => ?_)
theorem LE_vint_Get_L5 (p0 : ByteArray) (p1 : Int) (x95 : Int) (x96 : Int) : Le (X_vint_Get_L5 p0 p1 x95 x96) (F_vint_Get_L5 p0 p1 x95 x96) := by
  unfold X_vint_Get_L5 F_vint_Get_L5
  repeat' with_reducible first
    | apply LE_vint_Get_J4
    | apply LE_vint_Get_J2
    | exact Le.non _
    | exact Le.rf _
    | refine Le.grd ?_
    | refine Le.bind ?_ (fun _ => ?_)
    | refine Le.cond ?_ ?_
    | refine Le.map ?_
    | refine Le.elim (fun _ => ?_) (fun _ => ?_)
    | refine Le.loop (fun _ => ?_)
    | refine Le.loopF (fun _ => ?_)
theorem LE_vint_Get_J1 (p0 : ByteArray) (p1 : Int) (x6 : Bool) : Le (X_vint_Get_J1 p0 p1 x6) (F_vint_Get_J1 p0 p1 x6) := by
  unfold X_vint_Get_J1 F_vint_Get_J1
  repeat' with_reducible first
    | apply LE_vint_Get_L5
    | exact Le.non _
    | exact Le.rf _
    | refine Le.grd ?_
    | refine Le.bind ?_ (fun _ => ?_)
    | refine Le.cond ?_ ?_
    | refine Le.map ?_
    | refine Le.elim (fun _ => ?_) (fun _ => ?_)
    | refine Le.loop (fun _ => ?_)
    | refine Le.loopF (fun _ => ?_)
theorem LE_vint_Get (p0 : ByteArray) (p1 : Int) : Le (X_vint_Get p0 p1) (F_vint_Get p0 p1) := by
  unfold X_vint_Get F_vint_Get
  repeat' with_reducible first
    | apply LE_vint_Get_J1
    | exact Le.non _
    | exact Le.rf _
    | refine Le.grd ?_
    | refine Le.bind ?_ (fun _ => ?_)
    | refine Le.cond ?_ ?_
    | refine Le.map ?_
    | refine Le.elim (fun _ => ?_) (fun _ => ?_)
    | refine Le.loop (fun _ => ?_)
    | refine Le.loopF (fun _ => ?_)
theorem LE_vint_Zag (p0 : Int) : Le (X_vint_Zag p0) (F_vint_Zag p0) := by
  unfold X_vint_Zag F_vint_Zag
  repeat' with_reducible first
    | exact Le.non _
    | exact Le.rf _
    | refine Le.grd ?_
    | refine Le.bind ?_ (fun _ => ?_)
    | refine Le.cond ?_ ?_
    | refine Le.map ?_
    | refine Le.elim (fun _ => ?_) (fun _ => ?_)
    | refine Le.loop (fun _ => ?_)
    | refine Le.loopF (fun _ => ?_)
theorem LE_vint_GetInt (p0 : ByteArray) (p1 : Int) : Le (X_vint_GetInt p0 p1) (F_vint_GetInt p0 p1) := by
  unfold X_vint_GetInt F_vint_GetInt
  repeat' with_reducible first
    | apply LE_vint_Get
    | apply LE_vint_Zag
    | exact Le.non _
    | exact Le.rf _
    | refine Le.grd ?_
    | refine Le.bind ?_ (fun _ => ?_)
    | refine Le.cond ?_ ?_
    | refine Le.map ?_
    | refine Le.elim (fun _ => ?_) (fun _ => ?_)
    | refine Le.loop (fun _ => ?_)
    | refine Le.loopF (fun _ => ?_)
theorem LE_wire_Reader_Int_1 (p0 : ByteArray) (o0_0 : Int) : Le (X_wire_Reader_Int_1 p0 o0_0) (F_wire_Reader_Int_1 p0 o0_0) := by
  unfold X_wire_Reader_Int_1 F_wire_Reader_Int_1
  repeat' with_reducible first
    | apply LE_vint_GetInt
    | exact Le.non _
    | exact Le.rf _
    | refine Le.grd ?_
    | refine Le.bind ?_ (fun _ => ?_)
    | refine Le.cond ?_ ?_
    | refine Le.map ?_
    | refine Le.elim (fun _ => ?_) (fun _ => ?_)
    | refine Le.loop (fun _ => ?_)
    | refine Le.loopF (fun _ => ?_)
theorem LE_wire_Reader_step (o0 : T_wire_Reader) (o1_0 : Int) : Le (X_wire_Reader_step o0 o1_0) (F_wire_Reader_step o0 o1_0) := by
  unfold X_wire_Reader_step F_wire_Reader_step
  repeat' with_reducible first
    | apply LE_wire_Reader_Int_1
    | exact Le.non _
    | exact Le.rf _
    | refine Le.grd ?_
    | refine Le.bind ?_ (fun _ => ?_)
    | refine Le.cond ?_ ?_
    | refine Le.map ?_
    | refine Le.elim (fun _ => ?_) (fun _ => ?_)
    | refine Le.loop (fun _ => ?_)
    | refine Le.loopF (fun _ => ?_)
theorem LE_wire_Reader_Int (o0 : T_wire_Reader) : Le (X_wire_Reader_Int o0) (F_wire_Reader_Int o0) := by
  unfold X_wire_Reader_Int F_wire_Reader_Int
  repeat' with_reducible first
    | apply LE_wire_Reader_step
    | exact Le.non _
    | exact Le.rf _
    | refine Le.grd ?_
    | refine Le.bind ?_ (fun _ => ?_)
    | refine Le.cond ?_ ?_
    | refine Le.map ?_
    | refine Le.elim (fun _ => ?_) (fun _ => ?_)
    | refine Le.loop (fun _ => ?_)
    | refine Le.loopF (fun _ => ?_)
theorem LE_dump_reader_into (o0 : T_wire_Reader) (o2 : T_api_State) : Le (X_dump_reader_into o0 o2) (F_dump_reader_into o0 o2) := by
  unfold X_dump_reader_into F_dump_reader_into
  repeat' with_reducible first
    | apply LE_wire_Reader_Int
    | exact Le.non _
    | exact Le.rf _
    | refine Le.grd ?_
    | refine Le.bind ?_ (fun _ => ?_)
    | refine Le.cond ?_ ?_
    | refine Le.map ?_
    | refine Le.elim (fun _ => ?_) (fun _ => ?_)
    | refine Le.loop (fun _ => ?_)
    | refine Le.loopF (fun _ => ?_)
theorem LE_wire_Reader_Upto_1_J1 (y2 : Int × Int × Int) (x11 : Bool) : Le (X_wire_Reader_Upto_1_J1 y2 x11) (F_wire_Reader_Upto_1_J1 y2 x11) := by
  unfold X_wire_Reader_Upto_1_J1 F_wire_Reader_Upto_1_J1
  repeat' with_reducible first
    | exact Le.non _
    | exact Le.rf _
    | refine Le.grd ?_
    | refine Le.bind ?_ (fun _ => ?_)
    | refine Le.cond ?_ ?_
    | refine Le.map ?_
    | refine Le.elim (fun _ => ?_) (fun _ => ?_)
    | refine Le.loop (fun _ => ?_)
    | refine Le.loopF (fun _ => ?_)
theorem LE_wire_Reader_Upto_1 (p0 : ByteArray) (o0_0 : Int) (o1_0 : Int) : Le (X_wire_Reader_Upto_1 p0 o0_0 o1_0) (F_wire_Reader_Upto_1 p0 o0_0 o1_0) := by
  unfold X_wire_Reader_Upto_1 F_wire_Reader_Upto_1
  repeat' with_reducible first
    | apply LE_vint_Get
    | apply LE_wire_Reader_Upto_1_J1
    | exact Le.non _
    | exact Le.rf _
    | refine Le.grd ?_
    | refine Le.bind ?_ (fun _ => ?_)
    | refine Le.cond ?_ ?_
    | refine Le.map ?_
    | refine Le.elim (fun _ => ?_) (fun _ => ?_)
    | refine Le.loop (fun _ => ?_)
    | refine Le.loopF (fun _ => ?_)
theorem LE_wire_Reader_step_v2 (o0 : T_wire_Reader) (o1_0 : Int) (o2_0 : Int) : Le (X_wire_Reader_step_v2 o0 o1_0 o2_0) (F_wire_Reader_step_v2 o0 o1_0 o2_0) := by
  unfold X_wire_Reader_step_v2 F_wire_Reader_step_v2
  repeat' with_reducible first
    | apply LE_wire_Reader_Upto_1
    | exact Le.non _
    | exact Le.rf _
    | refine Le.grd ?_
    | refine Le.bind ?_ (fun _ => ?_)
    | refine Le.cond ?_ ?_
    | refine Le.map ?_
    | refine Le.elim (fun _ => ?_) (fun _ => ?_)
    | refine Le.loop (fun _ => ?_)
    | refine Le.loopF (fun _ => ?_)
theorem LE_wire_Reader_Upto (p1 : Int) (o0 : T_wire_Reader) : Le (X_wire_Reader_Upto p1 o0) (F_wire_Reader_Upto p1 o0) := by
  unfold X_wire_Reader_Upto F_wire_Reader_Upto
  repeat' with_reducible first
    | apply LE_wire_Reader_step_v2
    | exact Le.non _
    | exact Le.rf _
    | refine Le.grd ?_
    | refine Le.bind ?_ (fun _ => ?_)
    | refine Le.cond ?_ ?_
    | refine Le.map ?_
    | refine Le.elim (fun _ => ?_) (fun _ => ?_)
    | refine Le.loop (fun _ => ?_)
    | refine Le.loopF (fun _ => ?_)
theorem LE_wire_Reader_Err (o0 : T_wire_Reader) : Le (X_wire_Reader_Err o0) (F_wire_Reader_Err o0) := by
  unfold X_wire_Reader_Err F_wire_Reader_Err
  repeat' with_reducible first
    | exact Le.non _
    | exact Le.rf _
    | refine Le.grd ?_
    | refine Le.bind ?_ (fun _ => ?_)
    | refine Le.cond ?_ ?_
    | refine Le.map ?_
    | refine Le.elim (fun _ => ?_) (fun _ => ?_)
    | refine Le.loop (fun _ => ?_)
    | refine Le.loopF (fun _ => ?_)
theorem LE_dump_reader_into_v2 (o0 : T_wire_Reader) (o2 : T_api_Proc) : Le (X_dump_reader_into_v2 o0 o2) (F_dump_reader_into_v2 o0 o2) := by
  unfold X_dump_reader_into_v2 F_dump_reader_into_v2
  repeat' with_reducible first
    | apply LE_wire_Reader_Int
    | exact Le.non _
    | exact Le.rf _
    | refine Le.grd ?_
    | refine Le.bind ?_ (fun _ => ?_)
    | refine Le.cond ?_ ?_
    | refine Le.map ?_
    | refine Le.elim (fun _ => ?_) (fun _ => ?_)
    | refine Le.loop (fun _ => ?_)
    | refine Le.loopF (fun _ => ?_)
theorem LE_wire_Reader_Ints_J1 (x24 : ByteArray) (x25 : Int) (x26 : (List Int)) (x37 : Bool) : Le (X_wire_Reader_Ints_J1 x24 x25 x26 x37) (F_wire_Reader_Ints_J1 x24 x25 x26 x37) := by
  unfold X_wire_Reader_Ints_J1 F_wire_Reader_Ints_J1
  repeat' with_reducible first
    | apply LE_wire_Reader_Int
    | apply LE_wire_Reader_Err
    | exact Le.non _
    | exact Le.rf _
    | refine Le.grd ?_
    | refine Le.bind ?_ (fun _ => ?_)
    | refine Le.cond ?_ ?_
    | refine Le.map ?_
    | refine Le.elim (fun _ => ?_) (fun _ => ?_)
    | refine Le.loop (fun _ => ?_)
    | refine Le.loopF (fun _ => ?_)
theorem LE_wire_Reader_Ints_L2 (y2 : Int × T_wire_Reader) (x24 : ByteArray) (x25 : Int) (x26 : (List Int)) : Le (X_wire_Reader_Ints_L2 y2 x24 x25 x26) (F_wire_Reader_Ints_L2 y2 x24 x25 x26) := by
  unfold X_wire_Reader_Ints_L2 F_wire_Reader_Ints_L2
  repeat' with_reducible first
    | apply LE_wire_Reader_Err
    | apply LE_wire_Reader_Ints_J1
    | exact Le.non _
    | exact Le.rf _
    | refine Le.grd ?_
    | refine Le.bind ?_ (fun _ => ?_)
    | refine Le.cond ?_ ?_
    | refine Le.map ?_
    | refine Le.elim (fun _ => ?_) (fun _ => ?_)
    | refine Le.loop (fun _ => ?_)
    | refine Le.loopF (fun _ => ?_)
theorem LE_wire_Reader_Ints (p1 : Int) (o0 : T_wire_Reader) : Le (X_wire_Reader_Ints p1 o0) (F_wire_Reader_Ints p1 o0) := by
  unfold X_wire_Reader_Ints F_wire_Reader_Ints
  repeat' with_reducible first
    | apply LE_wire_Reader_Upto
    | apply LE_wire_Reader_Ints_L2
    | exact Le.non _
    | exact Le.rf _
    | refine Le.grd ?_
    | refine Le.bind ?_ (fun _ => ?_)
    | refine Le.cond ?_ ?_
    | refine Le.map ?_
    | refine Le.elim (fun _ => ?_) (fun _ => ?_)
    | refine Le.loop (fun _ => ?_)
    | refine Le.loopF (fun _ => ?_)
theorem LE_dump_reader_into_v3 (o0 : T_wire_Reader) (o2 : T_api_Proc) : Le (X_dump_reader_into_v3 o0 o2) (F_dump_reader_into_v3 o0 o2) := by
  unfold X_dump_reader_into_v3 F_dump_reader_into_v3
  repeat' with_reducible first
    | apply LE_wire_Reader_Int
    | exact Le.non _
    | exact Le.rf _
    | refine Le.grd ?_
    | refine Le.bind ?_ (fun _ => ?_)
    | refine Le.cond ?_ ?_
    | refine Le.map ?_
    | refine Le.elim (fun _ => ?_) (fun _ => ?_)
    | refine Le.loop (fun _ => ?_)
    | refine Le.loopF (fun _ => ?_)
theorem LE_dump_reader_into_v4 (o0 : T_wire_Reader) (o2 : T_api_Alt) : Le (X_dump_reader_into_v4 o0 o2) (F_dump_reader_into_v4 o0 o2) := by
  unfold X_dump_reader_into_v4 F_dump_reader_into_v4
  repeat' with_reducible first
    | apply LE_wire_Reader_Int
    | exact Le.non _
    | exact Le.rf _
    | refine Le.grd ?_
    | refine Le.bind ?_ (fun _ => ?_)
    | refine Le.cond ?_ ?_
    | refine Le.map ?_
    | refine Le.elim (fun _ => ?_) (fun _ => ?_)
    | refine Le.loop (fun _ => ?_)
    | refine Le.loopF (fun _ => ?_)
theorem LE_dump_reader_proc_1 (o1 : T_wire_Reader) (o2 : T_api_Proc) : Le (X_dump_reader_proc_1 o1 o2) (F_dump_reader_proc_1 o1 o2) := by
  unfold X_dump_reader_proc_1 F_dump_reader_proc_1
  repeat' with_reducible first
    | apply LE_dump_reader_into_v4
    | exact Le.non _
    | exact Le.rf _
    | refine Le.grd ?_
    | refine Le.bind ?_ (fun _ => ?_)
    | refine Le.cond ?_ ?_
    | refine Le.map ?_
    | refine Le.elim (fun _ => ?_) (fun _ => ?_)
    | refine Le.loop (fun _ => ?_)
    | refine Le.loopF (fun _ => ?_)
theorem LE_dump_reader_each_v2_J1 (x3 : Int) (x4 : ByteArray) (x5 : Int) (x6 : Int) (x7 : Int) (x8 : Int) (x9 : Int) (x10 : Int) (x11 : Int) (x12 : Int) (x13 : Int) (x14 : Int) (x15 : (List Int)) (x16 : (List T_api_Alt)) (x27 : Bool) : Le (X_dump_reader_each_v2_J1 x3 x4 x5 x6 x7 x8 x9 x10 x11 x12 x13 x14 x15 x16 x27) (F_dump_reader_each_v2_J1 x3 x4 x5 x6 x7 x8 x9 x10 x11 x12 x13 x14 x15 x16 x27) := by
  unfold X_dump_reader_each_v2_J1 F_dump_reader_each_v2_J1
  repeat' with_reducible first
    | apply LE_dump_reader_proc_1
    | exact Le.non _
    | exact Le.rf _
    | refine Le.grd ?_
    | refine Le.bind ?_ (fun _ => ?_)
    | refine Le.cond ?_ ?_
    | refine Le.map ?_
    | refine Le.elim (fun _ => ?_) (fun _ => ?_)
    | refine Le.loop (fun _ => ?_)
    | refine Le.loopF (fun _ => ?_)
theorem LE_dump_reader_each_v2_L2 (y2 : Int × T_wire_Reader) (x3 : Int) (x4 : ByteArray) (x5 : Int) (x6 : Int) (x7 : Int) (x8 : Int) (x9 : Int) (x10 : Int) (x11 : Int) (x12 : Int) (x13 : Int) (x14 : Int) (x15 : (List Int)) (x16 : (List T_api_Alt)) : Le (X_dump_reader_each_v2_L2 y2 x3 x4 x5 x6 x7 x8 x9 x10 x11 x12 x13 x14 x15 x16) (F_dump_reader_each_v2_L2 y2 x3 x4 x5 x6 x7 x8 x9 x10 x11 x12 x13 x14 x15 x16) := by
  unfold X_dump_reader_each_v2_L2 F_dump_reader_each_v2_L2
  repeat' with_reducible first
    | apply LE_wire_Reader_Err
    | apply LE_dump_reader_each_v2_J1
    | exact Le.non _
    | exact Le.rf _
    | refine Le.grd ?_
    | refine Le.bind ?_ (fun _ => ?_)
    | refine Le.cond ?_ ?_
    | refine Le.map ?_
    | refine Le.elim (fun _ => ?_) (fun _ => ?_)
    | refine Le.loop (fun _ => ?_)
    | refine Le.loopF (fun _ => ?_)
theorem LE_dump_reader_each_v2 (o0 : T_wire_Reader) (o2 : T_api_Proc) : Le (X_dump_reader_each_v2 o0 o2) (F_dump_reader_each_v2 o0 o2) := by
  unfold X_dump_reader_each_v2 F_dump_reader_each_v2
  repeat' with_reducible first
    | apply LE_wire_Reader_Upto
    | apply LE_dump_reader_each_v2_L2
    | exact Le.non _
    | exact Le.rf _
    | refine Le.grd ?_
    | refine Le.bind ?_ (fun _ => ?_)
    | refine Le.cond ?_ ?_
    | refine Le.map ?_
    | refine Le.elim (fun _ => ?_) (fun _ => ?_)
    | refine Le.loop (fun _ => ?_)
    | refine Le.loopF (fun _ => ?_)
theorem LE_dump_reader_proc (o0 : T_wire_Reader) : Le (X_dump_reader_proc o0) (F_dump_reader_proc o0) := by
  unfold X_dump_reader_proc F_dump_reader_proc
  repeat' with_reducible first
    | apply LE_dump_reader_into_v2
    | apply LE_wire_Reader_Ints
    | apply LE_dump_reader_into_v3
    | apply LE_dump_reader_each_v2
    | exact Le.non _
    | exact Le.rf _
    | refine Le.grd ?_
    | refine Le.bind ?_ (fun _ => ?_)
    | refine Le.cond ?_ ?_
    | refine Le.map ?_
    | refine Le.elim (fun _ => ?_) (fun _ => ?_)
    | refine Le.loop (fun _ => ?_)
    | refine Le.loopF (fun _ => ?_)
theorem LE_dump_Read_1 (o0 : T_api_State) (o4 : T_wire_Reader) : Le (X_dump_Read_1 o0 o4) (F_dump_Read_1 o0 o4) := by
  unfold X_dump_Read_1 F_dump_Read_1
  repeat' with_reducible first
    | apply LE_dump_reader_proc
    | exact Le.non _
    | exact Le.rf _
    | refine Le.grd ?_
    | refine Le.bind ?_ (fun _ => ?_)
    | refine Le.cond ?_ ?_
    | refine Le.map ?_
    | refine Le.elim (fun _ => ?_) (fun _ => ?_)
    | refine Le.loop (fun _ => ?_)
    | refine Le.loopF (fun _ => ?_)
theorem LE_dump_reader_each_J1 (x3 : Int) (x4 : ByteArray) (x5 : Int) (x6 : Int) (x7 : Int) (x8 : Int) (x9 : Int) (x10 : Int) (x11 : (List T_api_Proc)) (x12 : (List Int)) (x23 : Bool) : Le (X_dump_reader_each_J1 x3 x4 x5 x6 x7 x8 x9 x10 x11 x12 x23) (F_dump_reader_each_J1 x3 x4 x5 x6 x7 x8 x9 x10 x11 x12 x23) := by
  unfold X_dump_reader_each_J1 F_dump_reader_each_J1
  repeat' with_reducible first
    | apply LE_dump_Read_1
    | exact Le.non _
    | exact Le.rf _
    | refine Le.grd ?_
    | refine Le.bind ?_ (fun _ => ?_)
    | refine Le.cond ?_ ?_
    | refine Le.map ?_
    | refine Le.elim (fun _ => ?_) (fun _ => ?_)
    | refine Le.loop (fun _ => ?_)
    | refine Le.loopF (fun _ => ?_)
theorem LE_dump_reader_each_L2 (y2 : Int × T_wire_Reader) (x3 : Int) (x4 : ByteArray) (x5 : Int) (x6 : Int) (x7 : Int) (x8 : Int) (x9 : Int) (x10 : Int) (x11 : (List T_api_Proc)) (x12 : (List Int)) : Le (X_dump_reader_each_L2 y2 x3 x4 x5 x6 x7 x8 x9 x10 x11 x12) (F_dump_reader_each_L2 y2 x3 x4 x5 x6 x7 x8 x9 x10 x11 x12) := by
  unfold X_dump_reader_each_L2 F_dump_reader_each_L2
  repeat' with_reducible first
    | apply LE_wire_Reader_Err
    | apply LE_dump_reader_each_J1
    | exact Le.non _
    | exact Le.rf _
    | refine Le.grd ?_
    | refine Le.bind ?_ (fun _ => ?_)
    | refine Le.cond ?_ ?_
    | refine Le.map ?_
    | refine Le.elim (fun _ => ?_) (fun _ => ?_)
    | refine Le.loop (fun _ => ?_)
    | refine Le.loopF (fun _ => ?_)
theorem LE_dump_reader_each (o0 : T_wire_Reader) (o1 : T_api_State) : Le (X_dump_reader_each o0 o1) (F_dump_reader_each o0 o1) := by
  unfold X_dump_reader_each F_dump_reader_each
  repeat' with_reducible first
    | apply LE_wire_Reader_Upto
    | apply LE_dump_reader_each_L2
    | exact Le.non _
    | exact Le.rf _
    | refine Le.grd ?_
    | refine Le.bind ?_ (fun _ => ?_)
    | refine Le.cond ?_ ?_
    | refine Le.map ?_
    | refine Le.elim (fun _ => ?_) (fun _ => ?_)
    | refine Le.loop (fun _ => ?_)
    | refine Le.loopF (fun _ => ?_)
theorem LE_dump_Read (o0 : T_wire_Reader) : Le (X_dump_Read o0) (F_dump_Read o0) := by
  unfold X_dump_Read F_dump_Read
  repeat' with_reducible first
    | apply LE_dump_reader_into
    | apply LE_dump_reader_each
    | apply LE_wire_Reader_Ints
    | apply LE_wire_Reader_Err
    | exact Le.non _
    | exact Le.rf _
    | refine Le.grd ?_
    | refine Le.bind ?_ (fun _ => ?_)
    | refine Le.cond ?_ ?_
    | refine Le.map ?_
    | refine Le.elim (fun _ => ?_) (fun _ => ?_)
    | refine Le.loop (fun _ => ?_)
    | refine Le.loopF (fun _ => ?_)
theorem LE_wire_Reader_Left (o0 : T_wire_Reader) : Le (X_wire_Reader_Left o0) (F_wire_Reader_Left o0) := by
  unfold X_wire_Reader_Left F_wire_Reader_Left
  repeat' with_reducible first
    | exact Le.non _
    | exact Le.rf _
    | refine Le.grd ?_
    | refine Le.bind ?_ (fun _ => ?_)
    | refine Le.cond ?_ ?_
    | refine Le.map ?_
    | refine Le.elim (fun _ => ?_) (fun _ => ?_)
    | refine Le.loop (fun _ => ?_)
    | refine Le.loopF (fun _ => ?_)
theorem LE_wire_Reader_End_J1 (y10 : Int) (x13 : Bool) : Le (X_wire_Reader_End_J1 y10 x13) (F_wire_Reader_End_J1 y10 x13) := by
  unfold X_wire_Reader_End_J1 F_wire_Reader_End_J1
  repeat' with_reducible first
    | exact Le.non _
    | exact Le.rf _
    | refine Le.grd ?_
    | refine Le.bind ?_ (fun _ => ?_)
    | refine Le.cond ?_ ?_
    | refine Le.map ?_
    | refine Le.elim (fun _ => ?_) (fun _ => ?_)
    | refine Le.loop (fun _ => ?_)
    | refine Le.loopF (fun _ => ?_)
theorem LE_wire_Reader_End (o0 : T_wire_Reader) : Le (X_wire_Reader_End o0) (F_wire_Reader_End o0) := by
  unfold X_wire_Reader_End F_wire_Reader_End
  repeat' with_reducible first
    | apply LE_wire_Reader_Err
    | apply LE_wire_Reader_End_J1
    | apply LE_wire_Reader_Left
    | exact Le.non _
    | exact Le.rf _
    | refine Le.grd ?_
    | refine Le.bind ?_ (fun _ => ?_)
    | refine Le.cond ?_ ?_
    | refine Le.map ?_
    | refine Le.elim (fun _ => ?_) (fun _ => ?_)
    | refine Le.loop (fun _ => ?_)
    | refine Le.loopF (fun _ => ?_)
theorem LE_dump_Get (p0 : ByteArray) : Le (X_dump_Get p0) (F_dump_Get p0) := by
  unfold X_dump_Get F_dump_Get
  repeat' with_reducible first
    | apply LE_wire_Open
    | apply LE_dump_Read
    | apply LE_wire_Reader_End
    | exact Le.non _
    | exact Le.rf _
    | refine Le.grd ?_
    | refine Le.bind ?_ (fun _ => ?_)
    | refine Le.cond ?_ ?_
    | refine Le.map ?_
    | refine Le.elim (fun _ => ?_) (fun _ => ?_)
    | refine Le.loop (fun _ => ?_)
    | refine Le.loopF (fun _ => ?_)
theorem LE_dump_Put_v2_L1 (p0 : T_api_State) (x19 : Int) (x20 : (List Int)) : Le (X_dump_Put_v2_L1 p0 x19 x20) (F_dump_Put_v2_L1 p0 x19 x20) := by
  unfold X_dump_Put_v2_L1 F_dump_Put_v2_L1
  repeat' with_reducible first
    | apply LE_dump_writer_proc
    | apply LE_wire_Writer_Ints
    | apply LE_wire_Writer_Bytes
    | exact Le.non _
    | exact Le.rf _
    | refine Le.grd ?_
    | refine Le.bind ?_ (fun _ => ?_)
    | refine Le.cond ?_ ?_
    | refine Le.map ?_
    | refine Le.elim (fun _ => ?_) (fun _ => ?_)
    | refine Le.loop (fun _ => ?_)
    | refine Le.loopF (fun _ => ?_)
theorem LE_dump_Put_v2 (p0 : T_api_State) : Le (X_dump_Put_v2 p0) (F_dump_Put_v2 p0) := by
  unfold X_dump_Put_v2 F_dump_Put_v2
  repeat' with_reducible first
    | apply LE_dump_writer_ints
    | apply LE_wire_Writer_Num
    | apply LE_dump_Put_v2_L1
    | exact Le.non _
    | exact Le.rf _
    | refine Le.grd ?_
    | refine Le.bind ?_ (fun _ => ?_)
    | refine Le.cond ?_ ?_
    | refine Le.map ?_
    | refine Le.elim (fun _ => ?_) (fun _ => ?_)
    | refine Le.loop (fun _ => ?_)
    | refine Le.loopF (fun _ => ?_)
theorem LE_retracelaw30_live_J1 (x9 : Bool) : Le (X_retracelaw30_live_J1 x9) (F_retracelaw30_live_J1 x9) := by
  unfold X_retracelaw30_live_J1 F_retracelaw30_live_J1
  repeat' with_reducible first
    | exact Le.non _
    | exact Le.rf _
    | refine Le.grd ?_
    | refine Le.bind ?_ (fun _ => ?_)
    | refine Le.cond ?_ ?_
    | refine Le.map ?_
    | refine Le.elim (fun _ => ?_) (fun _ => ?_)
    | refine Le.loop (fun _ => ?_)
    | refine Le.loopF (fun _ => ?_)
theorem LE_retracelaw30_live  : Le (X_retracelaw30_live ) (F_retracelaw30_live ) := by
  unfold X_retracelaw30_live F_retracelaw30_live
  repeat' with_reducible first
    | apply LE_dump_Put
    | apply LE_dump_Get
    | apply LE_dump_Put_v2
    | apply LE_retracelaw30_live_J1
    | exact Le.non _
    | exact Le.rf _
    | refine Le.grd ?_
    | refine Le.bind ?_ (fun _ => ?_)
    | refine Le.cond ?_ ?_
    | refine Le.map ?_
    | refine Le.elim (fun _ => ?_) (fun _ => ?_)
    | refine Le.loop (fun _ => ?_)
    | refine Le.loopF (fun _ => ?_)
theorem ev_retracelaw30_live : F_retracelaw30_live = some true := LE_retracelaw30_live _ (by kernel_rfl)
end Go.Ab
