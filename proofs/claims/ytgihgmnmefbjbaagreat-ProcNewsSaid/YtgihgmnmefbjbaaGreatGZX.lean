import Derived.Test.YtgihgmnmefbjbaaGreatGZ
import Derived.Test.YtgihgmnmefbjbaaGreatAbEval
namespace Go.Ab
open Go.Proofs
set_option linter.unusedVariables false
noncomputable def X_retraceref19_Text (p0 : ByteArray) : Option (T_retraceref19_Got) :=
  cond (sEq p0 ⟨#[109, 97, 105, 110, 32, 123, 32, 125]⟩) (some ⟨⟨[⟨24, 0, 0⟩], [⟨⟨#[109, 97, 105, 110]⟩, 0, 0, 0⟩], [], 0, 0⟩, 0, 0⟩) none
noncomputable def X_proc_within_J1 (x2 : Bool) : Option (Bool) :=
  some x2
noncomputable def X_proc_within (p0 : Int) (p1 : Int) : Option (Bool) :=
  cond (decide (0 ≤ p0)) (X_proc_within_J1 (decide (p0 ≤ p1))) (X_proc_within_J1 false)
noncomputable def X_slices_Clone_int_int (p0 : (List Int)) : Option ((List Int)) :=
  grd (((([] : List Int)).length + (p0).length) * 8 ≤ 140737488355328) <| some (([] : List Int) ++ p0)
noncomputable def X_code_Settle_J1 (p0 : T_api_Code) (x45 : Int) (x46 : Int) (x79 : Bool) : Option ((Int × Int) ⊕ (Int)) :=
  cond x79 ((some x45).map Sum.inr) ((lAt p0.Ins x45).bind fun y83 => some (.inl (y83.A, (w64 (x46 + 1)))))
noncomputable def X_code_Settle_L2 (p0 : T_api_Code) (p1 : Int) (x45 : Int) (x46 : Int) : Option ((Int × Int) ⊕ (Int)) :=
  cond (decide (x46 < (w64 (((p0.Ins).length : Int) + 1)))) (cond (decide (x45 < 0)) (X_code_Settle_J1 p0 x45 x46 true) (cond (decide (((p0.Ins).length : Int) ≤ x45)) (X_code_Settle_J1 p0 x45 x46 true) ((lAt p0.Ins x45).bind fun y86 => X_code_Settle_J1 p0 x45 x46 (y86.Op != 6)))) ((some p1).map Sum.inr)
noncomputable def X_code_Settle (p0 : T_api_Code) (p1 : Int) : Option (Int) :=
  Loopx (fun s : (Int × Int) => X_code_Settle_L2 p0 p1 s.1 s.2) (p1, 0)
noncomputable def X_proc_Goes_J1 (p1 : T_api_Proc) (y4 : (List Int)) (x13 : Int) (x14 : Int) : Option (T_api_Proc) :=
  some (⟨p1.Def, x13, y4, p1.Fuel, x14, 0, 0, 0, 0, 0, ([] : List T_api_Alt)⟩ : T_api_Proc)
noncomputable def X_proc_Goes_J2 (p1 : T_api_Proc) (y3 : Int) (y4 : (List Int)) (x18 : Bool) : Option (T_api_Proc) :=
  cond x18 (X_proc_Goes_J1 p1 y4 0 5) (X_proc_Goes_J1 p1 y4 y3 0)
noncomputable def X_proc_Goes (p0 : T_api_Code) (p1 : T_api_Proc) (p2 : Int) : Option (T_api_Proc) :=
  (X_code_Settle p0 p2).bind fun y3 => (X_slices_Clone_int_int p1.Vars).bind fun y4 => cond (decide (0 ≤ y3)) (cond (decide (y3 < ((p0.Ins).length : Int))) ((lAt p0.Ins y3).bind fun y22 => X_proc_Goes_J2 p1 y3 y4 (y22.Op == 24)) (X_proc_Goes_J2 p1 y3 y4 false)) (X_proc_Goes_J2 p1 y3 y4 false)
noncomputable def X_proc_New_L2 (p0 : T_api_Code) (p1 : Int) (p3 : Int) (x34 : (List Int)) : Option (((List Int)) ⊕ (T_api_Proc × Int)) :=
  (lAt p0.Defs p1).bind fun y41 => cond (decide (((x34).length : Int) < y41.Vars)) (grd (((x34).length + ([0]).length) * 8 ≤ 140737488355328) <| some (.inl (x34 ++ [0]))) (((lAt p0.Defs p1).bind fun y50 => (X_proc_Goes p0 (⟨p1, 0, x34, p3, 0, 0, 0, 0, 0, 0, ([] : (List T_api_Alt))⟩ : T_api_Proc) y50.Entry).bind fun y51 => some (y51, 0)).map Sum.inr)
noncomputable def X_proc_New_J1 (p0 : T_api_Code) (p1 : Int) (p2 : (List Int)) (p3 : Int) (x18 : Bool) : Option (T_api_Proc × Int) :=
  cond x18 (some ((⟨0, 0, ([] : List Int), 0, 0, 0, 0, 0, 0, 0, ([] : List T_api_Alt)⟩ : T_api_Proc), 1)) ((X_slices_Clone_int_int p2).bind fun y21 => Loopx (fun s : ((List Int)) => X_proc_New_L2 p0 p1 p3 s) y21)
noncomputable def X_proc_New (p0 : T_api_Code) (p1 : Int) (p2 : (List Int)) (p3 : Int) : Option (T_api_Proc × Int) :=
  (X_proc_within p1 (w64 (((p0.Defs).length : Int) - 1))).bind fun y52 => cond (!y52) (X_proc_New_J1 p0 p1 p2 p3 true) ((lAt p0.Defs p1).bind fun y54 => cond (((p2).length : Int) != y54.Params) (X_proc_New_J1 p0 p1 p2 p3 true) ((X_proc_within p3 1048576).bind fun y56 => X_proc_New_J1 p0 p1 p2 p3 (!y56)))
noncomputable def X_proc_bare_J1 (p0 : T_api_Proc) (x5 : Int) (x6 : Int) (x7 : Int) (x8 : Int) (x9 : Int) (x10 : (List T_api_Alt)) : Option (T_api_Proc) :=
  some (⟨p0.Def, p0.At, p0.Vars, p0.Fuel, p0.Mode, x5, x6, x7, x8, x9, x10⟩ : T_api_Proc)
noncomputable def X_proc_bare (p0 : T_api_Proc) : Option (T_api_Proc) :=
  cond (p0.Mode == 1) (X_proc_bare_J1 p0 p0.Chan p0.Val 0 0 p0.Since ([] : List T_api_Alt)) (cond (p0.Mode == 2) (X_proc_bare_J1 p0 p0.Chan 0 p0.Slot 0 p0.Since ([] : List T_api_Alt)) (cond (p0.Mode == 3) (X_proc_bare_J1 p0 0 0 0 0 p0.Since p0.Alts) (cond (p0.Mode == 4) (X_proc_bare_J1 p0 0 0 0 p0.Until 0 ([] : List T_api_Alt)) (X_proc_bare_J1 p0 0 0 0 0 0 ([] : List T_api_Alt)))))
noncomputable def X_slices_Equal_int_int_L1 (p0 : (List Int)) (p1 : (List Int)) (x22 : Int) : Option ((Int) ⊕ (Bool)) :=
  cond (decide (x22 < ((p0).length : Int))) ((lAt p0 x22).bind fun y34 => (lAt p1 x22).bind fun y35 => cond (y34 != y35) ((some false).map Sum.inr) (some (.inl (w64 (x22 + 1))))) ((some true).map Sum.inr)
noncomputable def X_slices_Equal_int_int (p0 : (List Int)) (p1 : (List Int)) : Option (Bool) :=
  cond (((p0).length : Int) != ((p1).length : Int)) (some false) (Loopx (fun s : (Int) => X_slices_Equal_int_int_L1 p0 p1 s) 0)
noncomputable def X_slices_Equal_retrace_api_Alt_retrace_api_Alt_L1 (p0 : (List T_api_Alt)) (p1 : (List T_api_Alt)) (x22 : Int) : Option ((Int) ⊕ (Bool)) :=
  cond (decide (x22 < ((p0).length : Int))) ((lAt p0 x22).bind fun y34 => (lAt p1 x22).bind fun y35 => cond (!((y34.Kind == y35.Kind) && ((y34.Chan == y35.Chan) && ((y34.Val == y35.Val) && ((y34.Slot == y35.Slot) && ((y34.Goto == y35.Goto) && true)))))) ((some false).map Sum.inr) (some (.inl (w64 (x22 + 1))))) ((some true).map Sum.inr)
noncomputable def X_slices_Equal_retrace_api_Alt_retrace_api_Alt (p0 : (List T_api_Alt)) (p1 : (List T_api_Alt)) : Option (Bool) :=
  cond (((p0).length : Int) != ((p1).length : Int)) (some false) (Loopx (fun s : (Int) => X_slices_Equal_retrace_api_Alt_retrace_api_Alt_L1 p0 p1 s) 0)
noncomputable def X_proc_Same_J1 (x13 : Bool) : Option (Bool) :=
  some x13
noncomputable def X_proc_Same (p0 : T_api_Proc) (p1 : T_api_Proc) : Option (Bool) :=
  cond (p0.Def == p1.Def) (cond (p0.At == p1.At) ((X_slices_Equal_int_int p0.Vars p1.Vars).bind fun y16 => cond y16 (cond (p0.Fuel == p1.Fuel) (cond (p0.Mode == p1.Mode) (cond (p0.Chan == p1.Chan) (cond (p0.Val == p1.Val) (cond (p0.Slot == p1.Slot) (cond (p0.Until == p1.Until) (cond (p0.Since == p1.Since) ((X_slices_Equal_retrace_api_Alt_retrace_api_Alt p0.Alts p1.Alts).bind fun y25 => X_proc_Same_J1 y25) (X_proc_Same_J1 false)) (X_proc_Same_J1 false)) (X_proc_Same_J1 false)) (X_proc_Same_J1 false)) (X_proc_Same_J1 false)) (X_proc_Same_J1 false)) (X_proc_Same_J1 false)) (X_proc_Same_J1 false)) (X_proc_Same_J1 false)) (X_proc_Same_J1 false)
noncomputable def X_proc_looks (p0 : T_api_Code) (p1 : T_api_Proc) : Option (T_api_Code × T_api_Proc) :=
  some (p0, p1)
noncomputable def X_slices_Backward_retrace_api_Def_retrace_api_Def (p0 : (List T_api_Def)) : Option ((List T_api_Def)) :=
  some p0
noncomputable def X_R_code_Routine_0 (p0 : Int) (p1 : T_api_Def) (o1_0 : Int) (o2_0 : Int) : Option ((Int) ⊕ (Unit)) :=
  cond (decide (p1.Entry ≤ o1_0)) (some (.inl p0)) (some (.inr ()))
noncomputable def X_slices_Backward_retrace_api_Def_retrace_api_Def_1_J1 (x19 : Int) : Option ((Int) ⊕ ((Int) ⊕ (Unit))) :=
  (some (.inl x19)).map Sum.inr
noncomputable def X_slices_Backward_retrace_api_Def_retrace_api_Def_1_J2 (x1 : Int) : Option ((Int) ⊕ ((Int) ⊕ (Unit))) :=
  some (.inl (w64 (x1 - 1)))
noncomputable def X_slices_Backward_retrace_api_Def_retrace_api_Def_1_L3 (o1_0 : Int) (o2_0 : Int) (o3_0 : (List T_api_Def)) (x1 : Int) : Option ((Int) ⊕ ((Int) ⊕ (Unit))) :=
  cond (decide (0 ≤ x1)) ((lAt o3_0 x1).bind fun y22 => (X_R_code_Routine_0 x1 y22 o1_0 o2_0).bind fun y23 => (Sum.elim (fun y24 => X_slices_Backward_retrace_api_Def_retrace_api_Def_1_J1 y24) (fun y25 => X_slices_Backward_retrace_api_Def_retrace_api_Def_1_J2 x1)) y23) ((some (.inr ())).map Sum.inr)
noncomputable def X_slices_Backward_retrace_api_Def_retrace_api_Def_1 (o1_0 : Int) (o2_0 : Int) (o3_0 : (List T_api_Def)) : Option ((Int) ⊕ (Unit)) :=
  Loopx (fun s : (Int) => X_slices_Backward_retrace_api_Def_retrace_api_Def_1_L3 o1_0 o2_0 o3_0 s) (w64 (((o3_0).length : Int) - 1))
noncomputable def X_code_Routine_J1 (p0 : T_api_Code) (p1 : Int) (x6 : Bool) : Option (Int) :=
  cond x6 (some (-1)) ((X_slices_Backward_retrace_api_Def_retrace_api_Def p0.Defs).bind fun y14 => (X_slices_Backward_retrace_api_Def_retrace_api_Def_1 p1 0 y14).bind fun y15 => (Sum.elim (fun y16 => some y16) (fun y17 => some (-1))) y15)
noncomputable def X_code_Routine (p0 : T_api_Code) (p1 : Int) : Option (Int) :=
  cond (decide (p1 < 0)) (X_code_Routine_J1 p0 p1 true) (X_code_Routine_J1 p0 p1 (decide (((p0.Ins).length : Int) ≤ p1)))
noncomputable def X_proc_op_J1 (p0 : T_api_Code) (p2 : Int) (x12 : Bool) : Option (Int) :=
  cond x12 (some 0) ((lAt p0.Ins p2).bind fun y15 => some y15.Op)
noncomputable def X_proc_op (p0 : T_api_Code) (p1 : T_api_Proc) (p2 : Int) : Option (Int) :=
  cond (decide (p2 < 0)) (X_proc_op_J1 p0 p2 true) (cond (decide (((p0.Ins).length : Int) ≤ p2)) (X_proc_op_J1 p0 p2 true) ((X_code_Routine p0 p2).bind fun y18 => X_proc_op_J1 p0 p2 (y18 != p1.Def)))
noncomputable def X_proc_looks_1 (o0 : T_api_Code) (o1 : T_api_Proc) : Option (Bool) :=
  (X_proc_op o0 o1 o1.At).bind fun y2 => some (y2 == 1)
noncomputable def X_proc_looks_2_J1 (x4 : Bool) : Option (Bool) :=
  some x4
noncomputable def X_proc_looks_2 (p0 : Int) (o0 : T_api_Code) (o1 : T_api_Proc) : Option (Bool) :=
  (X_proc_op o0 o1 p0).bind fun y2 => cond (y2 == 1) (X_proc_looks_2_J1 true) (X_proc_looks_2_J1 (y2 == 24))
noncomputable def X_proc_Chans_L1 (p0 : T_api_Code) (x13 : Int) (x14 : Int) : Option ((Int × Int) ⊕ (Int)) :=
  cond (decide (x14 < ((p0.Chans).length : Int))) ((lAt p0.Chans x14).bind fun y22 => some (.inl ((w64 (x13 + (if 1 > y22.Size then 1 else y22.Size))), (w64 (x14 + 1))))) ((some x13).map Sum.inr)
noncomputable def X_proc_Chans (p0 : T_api_Code) : Option (Int) :=
  Loopx (fun s : (Int × Int) => X_proc_Chans_L1 p0 s.1 s.2) (0, 0)
noncomputable def X_proc_looks_3 (p0 : Int) (o0 : T_api_Code) : Option (Bool) :=
  (X_proc_Chans o0).bind fun y3 => (X_proc_within p0 (w64 (y3 - 1))).bind fun y4 => some y4
noncomputable def X_proc_looks_6_J1 (x4 : Bool) : Option (Bool) :=
  some x4
noncomputable def X_proc_looks_6 (o1 : T_api_Code) (o2 : T_api_Proc) : Option (Bool) :=
  (X_proc_looks_2 o2.At o1 o2).bind fun y5 => cond y5 ((X_proc_looks_3 o2.Chan o1).bind fun y7 => X_proc_looks_6_J1 y7) (X_proc_looks_6_J1 false)
noncomputable def X_proc_looks_4 (p0 : Int) (o0 : T_api_Proc) : Option (Bool) :=
  (X_proc_within p0 (w64 (((o0.Vars).length : Int) - 1))).bind fun y2 => some y2
noncomputable def X_proc_looks_7_J1 (x6 : Bool) : Option (Bool) :=
  some x6
noncomputable def X_proc_looks_7 (o1 : T_api_Code) (o2 : T_api_Proc) : Option (Bool) :=
  (X_proc_looks_2 o2.At o1 o2).bind fun y7 => cond y7 ((X_proc_looks_3 o2.Chan o1).bind fun y9 => cond y9 ((X_proc_looks_4 o2.Slot o2).bind fun y11 => X_proc_looks_7_J1 y11) (X_proc_looks_7_J1 false)) (X_proc_looks_7_J1 false)
noncomputable def X_proc_looks_5_J2 (x19 : Bool) : Option (Bool) :=
  some x19
noncomputable def X_proc_looks_5_J1 (p0 : T_api_Alt) (x14 : Bool) (x15 : Int) (x16 : Int) (x17 : Int) : Option (Bool) :=
  cond x14 (X_proc_looks_5_J2 ((p0.Kind == p0.Kind) && ((x15 == p0.Chan) && ((x16 == p0.Val) && ((x17 == p0.Slot) && ((p0.Goto == p0.Goto) && true)))))) (X_proc_looks_5_J2 false)
noncomputable def X_proc_looks_5 (p0 : T_api_Alt) (o1 : T_api_Code) (o2 : T_api_Proc) : Option (Bool) :=
  (X_proc_looks_2 p0.Goto o1 o2).bind fun y2 => cond (p0.Kind == 1) (cond y2 ((X_proc_looks_3 p0.Chan o1).bind fun y23 => cond y23 ((X_proc_looks_4 p0.Slot o2).bind fun y25 => X_proc_looks_5_J1 p0 y25 p0.Chan 0 p0.Slot) (X_proc_looks_5_J1 p0 false p0.Chan 0 p0.Slot)) (X_proc_looks_5_J1 p0 false p0.Chan 0 p0.Slot)) (cond (p0.Kind == 2) (cond y2 ((X_proc_looks_3 p0.Chan o1).bind fun y28 => X_proc_looks_5_J1 p0 y28 p0.Chan p0.Val 0) (X_proc_looks_5_J1 p0 false p0.Chan p0.Val 0)) (cond (p0.Kind == 3) (cond y2 ((X_proc_within p0.Val 1099511627776).bind fun y31 => X_proc_looks_5_J1 p0 y31 0 p0.Val 0) (X_proc_looks_5_J1 p0 false 0 p0.Val 0)) (some false)))
noncomputable def X_proc_looks_8_1 (p0 : T_api_Alt) (o2 : T_api_Code) (o3 : T_api_Proc) : Option (Bool) :=
  (X_proc_looks_5 p0 o2 o3).bind fun y2 => some (!y2)
noncomputable def X_slices_IndexFunc_retrace_api_Alt_retrace_api_Alt_L1 (p0 : (List T_api_Alt)) (o2 : T_api_Code) (o3 : T_api_Proc) (x20 : Int) : Option ((Int) ⊕ (Int)) :=
  cond (decide (x20 < ((p0).length : Int))) ((lAt p0 x20).bind fun y32 => (X_proc_looks_8_1 y32 o2 o3).bind fun y33 => cond y33 ((some x20).map Sum.inr) (some (.inl (w64 (x20 + 1))))) ((some (-1)).map Sum.inr)
noncomputable def X_slices_IndexFunc_retrace_api_Alt_retrace_api_Alt (p0 : (List T_api_Alt)) (o2 : T_api_Code) (o3 : T_api_Proc) : Option (Int) :=
  Loopx (fun s : (Int) => X_slices_IndexFunc_retrace_api_Alt_retrace_api_Alt_L1 p0 o2 o3 s) 0
noncomputable def X_slices_ContainsFunc_retrace_api_Alt_retrace_api_Alt (p0 : (List T_api_Alt)) (o2 : T_api_Code) (o3 : T_api_Proc) : Option (Bool) :=
  (X_slices_IndexFunc_retrace_api_Alt_retrace_api_Alt p0 o2 o3).bind fun y2 => some (decide (0 ≤ y2))
noncomputable def X_proc_looks_8_J1 (x4 : Bool) : Option (Bool) :=
  some x4
noncomputable def X_proc_looks_8 (o1 : T_api_Code) (o2 : T_api_Proc) : Option (Bool) :=
  (X_proc_looks_1 o1 o2).bind fun y5 => cond y5 ((X_slices_ContainsFunc_retrace_api_Alt_retrace_api_Alt o2.Alts o1 o2).bind fun y7 => X_proc_looks_8_J1 (!y7)) (X_proc_looks_8_J1 false)
noncomputable def X_proc_looks_9_J1 (x4 : Bool) : Option (Bool) :=
  some x4
noncomputable def X_proc_looks_9 (o1 : T_api_Code) (o2 : T_api_Proc) : Option (Bool) :=
  (X_proc_looks_2 o2.At o1 o2).bind fun y5 => cond y5 ((X_proc_within o2.Until 1099511627776).bind fun y7 => X_proc_looks_9_J1 y7) (X_proc_looks_9_J1 false)
noncomputable def X_proc_looks_10 (o0 : T_api_Proc) : Option (Bool) :=
  some (o0.At == 0)
noncomputable def X_proc_Check_J2 (x74 : Bool) : Option (Int) :=
  cond x74 (some 9) (some 0)
noncomputable def X_proc_Check_J1 (p0 : T_api_Code) (p1 : T_api_Proc) (x8 : Bool) : Option (Int) :=
  cond (!x8) (X_proc_Check_J2 true) ((lAt p0.Defs p1.Def).bind fun y77 => cond (((p1.Vars).length : Int) != y77.Vars) (X_proc_Check_J2 true) ((X_proc_bare p1).bind fun y79 => (X_proc_Same y79 p1).bind fun y80 => cond (!y80) (X_proc_Check_J2 true) ((X_proc_looks p0 p1).bind fun y82 => cond (p1.Mode == 0) ((X_proc_looks_1 y82.1 y82.2).bind fun y84 => X_proc_Check_J2 (!y84)) (cond (p1.Mode == 1) ((X_proc_looks_6 y82.1 y82.2).bind fun y86 => X_proc_Check_J2 (!y86)) (cond (p1.Mode == 2) ((X_proc_looks_7 y82.1 y82.2).bind fun y88 => X_proc_Check_J2 (!y88)) (cond (p1.Mode == 3) ((X_proc_looks_8 y82.1 y82.2).bind fun y90 => X_proc_Check_J2 (!y90)) (cond (p1.Mode == 4) ((X_proc_looks_9 y82.1 y82.2).bind fun y92 => X_proc_Check_J2 (!y92)) (cond (p1.Mode == 5) ((X_proc_looks_10 y82.2).bind fun y94 => X_proc_Check_J2 (!y94)) (cond (p1.Mode == 6) ((X_proc_looks_1 y82.1 y82.2).bind fun y96 => X_proc_Check_J2 (!y96)) (none))))))))))
noncomputable def X_proc_Check (p0 : T_api_Code) (p1 : T_api_Proc) : Option (Int) :=
  (X_proc_within p1.Def (w64 (((p0.Defs).length : Int) - 1))).bind fun y97 => cond y97 ((X_proc_within p1.Fuel 1048576).bind fun y99 => cond y99 ((X_proc_within p1.Since 1099511627776).bind fun y101 => cond y101 ((X_proc_within p1.Mode 6).bind fun y103 => X_proc_Check_J1 p0 p1 y103) (X_proc_Check_J1 p0 p1 false)) (X_proc_Check_J1 p0 p1 false)) (X_proc_Check_J1 p0 p1 false)
noncomputable def X_retracelaw22_live_J1 (x11 : Bool) : Option (Bool) :=
  some x11
noncomputable def X_retracelaw22_live  : Option (Bool) :=
  (X_retraceref19_Text (⟨#[109, 97, 105, 110, 32, 123, 32, 125]⟩ : ByteArray)).bind fun y2 => (X_proc_New y2.C 0 ([] : List Int) 5).bind fun y4 => cond (y4.2 == 0) (cond (y4.1.Mode == 5) (cond (y4.1.Fuel == 5) ((X_proc_Check y2.C y4.1).bind fun y15 => cond (y15 == 0) ((X_proc_Same y4.1 y4.1).bind fun y17 => X_retracelaw22_live_J1 y17) (X_retracelaw22_live_J1 false)) (X_retracelaw22_live_J1 false)) (X_retracelaw22_live_J1 false)) (X_retracelaw22_live_J1 false)
theorem LE_retraceref19_Text (p0 : ByteArray) : Le (X_retraceref19_Text p0) (F_retraceref19_Text p0) := by
  unfold X_retraceref19_Text F_retraceref19_Text
  repeat' with_reducible first
    | exact Le.non _
    | exact Le.rf _
    | refine Le.grd ?_
    | refine Le.bind ?_ (fun _ => ?_)
    | refine Le.cond ?_ ?_
    | refine Le.map ?_
    | refine Le.elim (fun _ => ?_) (fun _ => ?_)
    | refine Le.loop (fun _ => ?_)
    | refine Le.loopF (fun _ => ?_)
theorem LE_proc_within_J1 (x2 : Bool) : Le (X_proc_within_J1 x2) (F_proc_within_J1 x2) := by
  unfold X_proc_within_J1 F_proc_within_J1
  repeat' with_reducible first
    | exact Le.non _
    | exact Le.rf _
    | refine Le.grd ?_
    | refine Le.bind ?_ (fun _ => ?_)
    | refine Le.cond ?_ ?_
    | refine Le.map ?_
    | refine Le.elim (fun _ => ?_) (fun _ => ?_)
    | refine Le.loop (fun _ => ?_)
    | refine Le.loopF (fun _ => ?_)
theorem LE_proc_within (p0 : Int) (p1 : Int) : Le (X_proc_within p0 p1) (F_proc_within p0 p1) := by
  unfold X_proc_within F_proc_within
  repeat' with_reducible first
    | apply LE_proc_within_J1
    | exact Le.non _
    | exact Le.rf _
    | refine Le.grd ?_
    | refine Le.bind ?_ (fun _ => ?_)
    | refine Le.cond ?_ ?_
    | refine Le.map ?_
    | refine Le.elim (fun _ => ?_) (fun _ => ?_)
    | refine Le.loop (fun _ => ?_)
    | refine Le.loopF (fun _ => ?_)
theorem LE_slices_Clone_int_int (p0 : (List Int)) : Le (X_slices_Clone_int_int p0) (F_slices_Clone_int_int p0) := by
  unfold X_slices_Clone_int_int F_slices_Clone_int_int
  repeat' with_reducible first
    | exact Le.non _
    | exact Le.rf _
    | refine Le.grd ?_
    | refine Le.bind ?_ (fun _ => ?_)
    | refine Le.cond ?_ ?_
    | refine Le.map ?_
    | refine Le.elim (fun _ => ?_) (fun _ => ?_)
    | refine Le.loop (fun _ => ?_)
    | refine Le.loopF (fun _ => ?_)
theorem LE_code_Settle_J1 (p0 : T_api_Code) (x45 : Int) (x46 : Int) (x79 : Bool) : Le (X_code_Settle_J1 p0 x45 x46 x79) (F_code_Settle_J1 p0 x45 x46 x79) := by
  unfold X_code_Settle_J1 F_code_Settle_J1
  repeat' with_reducible first
    | exact Le.non _
    | exact Le.rf _
    | refine Le.grd ?_
    | refine Le.bind ?_ (fun _ => ?_)
    | refine Le.cond ?_ ?_
    | refine Le.map ?_
    | refine Le.elim (fun _ => ?_) (fun _ => ?_)
    | refine Le.loop (fun _ => ?_)
    | refine Le.loopF (fun _ => ?_)
theorem LE_code_Settle_L2 (p0 : T_api_Code) (p1 : Int) (x45 : Int) (x46 : Int) : Le (X_code_Settle_L2 p0 p1 x45 x46) (F_code_Settle_L2 p0 p1 x45 x46) := by
  unfold X_code_Settle_L2 F_code_Settle_L2
  repeat' with_reducible first
    | apply LE_code_Settle_J1
    | exact Le.non _
    | exact Le.rf _
    | refine Le.grd ?_
    | refine Le.bind ?_ (fun _ => ?_)
    | refine Le.cond ?_ ?_
    | refine Le.map ?_
    | refine Le.elim (fun _ => ?_) (fun _ => ?_)
    | refine Le.loop (fun _ => ?_)
    | refine Le.loopF (fun _ => ?_)
theorem LE_code_Settle (p0 : T_api_Code) (p1 : Int) : Le (X_code_Settle p0 p1) (F_code_Settle p0 p1) := by
  unfold X_code_Settle F_code_Settle
  repeat' with_reducible first
    | apply LE_code_Settle_L2
    | exact Le.non _
    | exact Le.rf _
    | refine Le.grd ?_
    | refine Le.bind ?_ (fun _ => ?_)
    | refine Le.cond ?_ ?_
    | refine Le.map ?_
    | refine Le.elim (fun _ => ?_) (fun _ => ?_)
    | refine Le.loop (fun _ => ?_)
    | refine Le.loopF (fun _ => ?_)
theorem LE_proc_Goes_J1 (p1 : T_api_Proc) (y4 : (List Int)) (x13 : Int) (x14 : Int) : Le (X_proc_Goes_J1 p1 y4 x13 x14) (F_proc_Goes_J1 p1 y4 x13 x14) := by
  unfold X_proc_Goes_J1 F_proc_Goes_J1
  repeat' with_reducible first
    | exact Le.non _
    | exact Le.rf _
    | refine Le.grd ?_
    | refine Le.bind ?_ (fun _ => ?_)
    | refine Le.cond ?_ ?_
    | refine Le.map ?_
    | refine Le.elim (fun _ => ?_) (fun _ => ?_)
    | refine Le.loop (fun _ => ?_)
    | refine Le.loopF (fun _ => ?_)
theorem LE_proc_Goes_J2 (p1 : T_api_Proc) (y3 : Int) (y4 : (List Int)) (x18 : Bool) : Le (X_proc_Goes_J2 p1 y3 y4 x18) (F_proc_Goes_J2 p1 y3 y4 x18) := by
  unfold X_proc_Goes_J2 F_proc_Goes_J2
  repeat' with_reducible first
    | apply LE_proc_Goes_J1
    | exact Le.non _
    | exact Le.rf _
    | refine Le.grd ?_
    | refine Le.bind ?_ (fun _ => ?_)
    | refine Le.cond ?_ ?_
    | refine Le.map ?_
    | refine Le.elim (fun _ => ?_) (fun _ => ?_)
    | refine Le.loop (fun _ => ?_)
    | refine Le.loopF (fun _ => ?_)
theorem LE_proc_Goes (p0 : T_api_Code) (p1 : T_api_Proc) (p2 : Int) : Le (X_proc_Goes p0 p1 p2) (F_proc_Goes p0 p1 p2) := by
  unfold X_proc_Goes F_proc_Goes
  repeat' with_reducible first
    | apply LE_code_Settle
    | apply LE_slices_Clone_int_int
    | apply LE_proc_Goes_J2
    | exact Le.non _
    | exact Le.rf _
    | refine Le.grd ?_
    | refine Le.bind ?_ (fun _ => ?_)
    | refine Le.cond ?_ ?_
    | refine Le.map ?_
    | refine Le.elim (fun _ => ?_) (fun _ => ?_)
    | refine Le.loop (fun _ => ?_)
    | refine Le.loopF (fun _ => ?_)
theorem LE_proc_New_L2 (p0 : T_api_Code) (p1 : Int) (p3 : Int) (x34 : (List Int)) : Le (X_proc_New_L2 p0 p1 p3 x34) (F_proc_New_L2 p0 p1 p3 x34) := by
  unfold X_proc_New_L2 F_proc_New_L2
  repeat' with_reducible first
    | apply LE_proc_Goes
    | exact Le.non _
    | exact Le.rf _
    | refine Le.grd ?_
    | refine Le.bind ?_ (fun _ => ?_)
    | refine Le.cond ?_ ?_
    | refine Le.map ?_
    | refine Le.elim (fun _ => ?_) (fun _ => ?_)
    | refine Le.loop (fun _ => ?_)
    | refine Le.loopF (fun _ => ?_)
theorem LE_proc_New_J1 (p0 : T_api_Code) (p1 : Int) (p2 : (List Int)) (p3 : Int) (x18 : Bool) : Le (X_proc_New_J1 p0 p1 p2 p3 x18) (F_proc_New_J1 p0 p1 p2 p3 x18) := by
  unfold X_proc_New_J1 F_proc_New_J1
  repeat' with_reducible first
    | apply LE_slices_Clone_int_int
    | apply LE_proc_New_L2
    | exact Le.non _
    | exact Le.rf _
    | refine Le.grd ?_
    | refine Le.bind ?_ (fun _ => ?_)
    | refine Le.cond ?_ ?_
    | refine Le.map ?_
    | refine Le.elim (fun _ => ?_) (fun _ => ?_)
    | refine Le.loop (fun _ => ?_)
    | refine Le.loopF (fun _ => ?_)
theorem LE_proc_New (p0 : T_api_Code) (p1 : Int) (p2 : (List Int)) (p3 : Int) : Le (X_proc_New p0 p1 p2 p3) (F_proc_New p0 p1 p2 p3) := by
  unfold X_proc_New F_proc_New
  repeat' with_reducible first
    | apply LE_proc_within
    | apply LE_proc_New_J1
    | exact Le.non _
    | exact Le.rf _
    | refine Le.grd ?_
    | refine Le.bind ?_ (fun _ => ?_)
    | refine Le.cond ?_ ?_
    | refine Le.map ?_
    | refine Le.elim (fun _ => ?_) (fun _ => ?_)
    | refine Le.loop (fun _ => ?_)
    | refine Le.loopF (fun _ => ?_)
theorem LE_proc_bare_J1 (p0 : T_api_Proc) (x5 : Int) (x6 : Int) (x7 : Int) (x8 : Int) (x9 : Int) (x10 : (List T_api_Alt)) : Le (X_proc_bare_J1 p0 x5 x6 x7 x8 x9 x10) (F_proc_bare_J1 p0 x5 x6 x7 x8 x9 x10) := by
  unfold X_proc_bare_J1 F_proc_bare_J1
  repeat' with_reducible first
    | exact Le.non _
    | exact Le.rf _
    | refine Le.grd ?_
    | refine Le.bind ?_ (fun _ => ?_)
    | refine Le.cond ?_ ?_
    | refine Le.map ?_
    | refine Le.elim (fun _ => ?_) (fun _ => ?_)
    | refine Le.loop (fun _ => ?_)
    | refine Le.loopF (fun _ => ?_)
theorem LE_proc_bare (p0 : T_api_Proc) : Le (X_proc_bare p0) (F_proc_bare p0) := by
  unfold X_proc_bare F_proc_bare
  repeat' with_reducible first
    | apply LE_proc_bare_J1
    | exact Le.non _
    | exact Le.rf _
    | refine Le.grd ?_
    | refine Le.bind ?_ (fun _ => ?_)
    | refine Le.cond ?_ ?_
    | refine Le.map ?_
    | refine Le.elim (fun _ => ?_) (fun _ => ?_)
    | refine Le.loop (fun _ => ?_)
    | refine Le.loopF (fun _ => ?_)
theorem LE_slices_Equal_int_int_L1 (p0 : (List Int)) (p1 : (List Int)) (x22 : Int) : Le (X_slices_Equal_int_int_L1 p0 p1 x22) (F_slices_Equal_int_int_L1 p0 p1 x22) := by
  unfold X_slices_Equal_int_int_L1 F_slices_Equal_int_int_L1
  repeat' with_reducible first
    | exact Le.non _
    | exact Le.rf _
    | refine Le.grd ?_
    | refine Le.bind ?_ (fun _ => ?_)
    | refine Le.cond ?_ ?_
    | refine Le.map ?_
    | refine Le.elim (fun _ => ?_) (fun _ => ?_)
    | refine Le.loop (fun _ => ?_)
    | refine Le.loopF (fun _ => ?_)
theorem LE_slices_Equal_int_int (p0 : (List Int)) (p1 : (List Int)) : Le (X_slices_Equal_int_int p0 p1) (F_slices_Equal_int_int p0 p1) := by
  unfold X_slices_Equal_int_int F_slices_Equal_int_int
  repeat' with_reducible first
    | apply LE_slices_Equal_int_int_L1
    | exact Le.non _
    | exact Le.rf _
    | refine Le.grd ?_
    | refine Le.bind ?_ (fun _ => ?_)
    | refine Le.cond ?_ ?_
    | refine Le.map ?_
    | refine Le.elim (fun _ => ?_) (fun _ => ?_)
    | refine Le.loop (fun _ => ?_)
    | refine Le.loopF (fun _ => ?_)
theorem LE_slices_Equal_retrace_api_Alt_retrace_api_Alt_L1 (p0 : (List T_api_Alt)) (p1 : (List T_api_Alt)) (x22 : Int) : Le (X_slices_Equal_retrace_api_Alt_retrace_api_Alt_L1 p0 p1 x22) (F_slices_Equal_retrace_api_Alt_retrace_api_Alt_L1 p0 p1 x22) := by
  unfold X_slices_Equal_retrace_api_Alt_retrace_api_Alt_L1 F_slices_Equal_retrace_api_Alt_retrace_api_Alt_L1
  repeat' with_reducible first
    | exact Le.non _
    | exact Le.rf _
    | refine Le.grd ?_
    | refine Le.bind ?_ (fun _ => ?_)
    | refine Le.cond ?_ ?_
    | refine Le.map ?_
    | refine Le.elim (fun _ => ?_) (fun _ => ?_)
    | refine Le.loop (fun _ => ?_)
    | refine Le.loopF (fun _ => ?_)
theorem LE_slices_Equal_retrace_api_Alt_retrace_api_Alt (p0 : (List T_api_Alt)) (p1 : (List T_api_Alt)) : Le (X_slices_Equal_retrace_api_Alt_retrace_api_Alt p0 p1) (F_slices_Equal_retrace_api_Alt_retrace_api_Alt p0 p1) := by
  unfold X_slices_Equal_retrace_api_Alt_retrace_api_Alt F_slices_Equal_retrace_api_Alt_retrace_api_Alt
  repeat' with_reducible first
    | apply LE_slices_Equal_retrace_api_Alt_retrace_api_Alt_L1
    | exact Le.non _
    | exact Le.rf _
    | refine Le.grd ?_
    | refine Le.bind ?_ (fun _ => ?_)
    | refine Le.cond ?_ ?_
    | refine Le.map ?_
    | refine Le.elim (fun _ => ?_) (fun _ => ?_)
    | refine Le.loop (fun _ => ?_)
    | refine Le.loopF (fun _ => ?_)
theorem LE_proc_Same_J1 (x13 : Bool) : Le (X_proc_Same_J1 x13) (F_proc_Same_J1 x13) := by
  unfold X_proc_Same_J1 F_proc_Same_J1
  repeat' with_reducible first
    | exact Le.non _
    | exact Le.rf _
    | refine Le.grd ?_
    | refine Le.bind ?_ (fun _ => ?_)
    | refine Le.cond ?_ ?_
    | refine Le.map ?_
    | refine Le.elim (fun _ => ?_) (fun _ => ?_)
    | refine Le.loop (fun _ => ?_)
    | refine Le.loopF (fun _ => ?_)
theorem LE_proc_Same (p0 : T_api_Proc) (p1 : T_api_Proc) : Le (X_proc_Same p0 p1) (F_proc_Same p0 p1) := by
  unfold X_proc_Same F_proc_Same
  repeat' with_reducible first
    | apply LE_slices_Equal_int_int
    | apply LE_slices_Equal_retrace_api_Alt_retrace_api_Alt
    | apply LE_proc_Same_J1
    | exact Le.non _
    | exact Le.rf _
    | refine Le.grd ?_
    | refine Le.bind ?_ (fun _ => ?_)
    | refine Le.cond ?_ ?_
    | refine Le.map ?_
    | refine Le.elim (fun _ => ?_) (fun _ => ?_)
    | refine Le.loop (fun _ => ?_)
    | refine Le.loopF (fun _ => ?_)
theorem LE_proc_looks (p0 : T_api_Code) (p1 : T_api_Proc) : Le (X_proc_looks p0 p1) (F_proc_looks p0 p1) := by
  unfold X_proc_looks F_proc_looks
  repeat' with_reducible first
    | exact Le.non _
    | exact Le.rf _
    | refine Le.grd ?_
    | refine Le.bind ?_ (fun _ => ?_)
    | refine Le.cond ?_ ?_
    | refine Le.map ?_
    | refine Le.elim (fun _ => ?_) (fun _ => ?_)
    | refine Le.loop (fun _ => ?_)
    | refine Le.loopF (fun _ => ?_)
theorem LE_slices_Backward_retrace_api_Def_retrace_api_Def (p0 : (List T_api_Def)) : Le (X_slices_Backward_retrace_api_Def_retrace_api_Def p0) (F_slices_Backward_retrace_api_Def_retrace_api_Def p0) := by
  unfold X_slices_Backward_retrace_api_Def_retrace_api_Def F_slices_Backward_retrace_api_Def_retrace_api_Def
  repeat' with_reducible first
    | exact Le.non _
    | exact Le.rf _
    | refine Le.grd ?_
    | refine Le.bind ?_ (fun _ => ?_)
    | refine Le.cond ?_ ?_
    | refine Le.map ?_
    | refine Le.elim (fun _ => ?_) (fun _ => ?_)
    | refine Le.loop (fun _ => ?_)
    | refine Le.loopF (fun _ => ?_)
theorem LE_R_code_Routine_0 (p0 : Int) (p1 : T_api_Def) (o1_0 : Int) (o2_0 : Int) : Le (X_R_code_Routine_0 p0 p1 o1_0 o2_0) (F_R_code_Routine_0 p0 p1 o1_0 o2_0) := by
  unfold X_R_code_Routine_0 F_R_code_Routine_0
  repeat' with_reducible first
    | exact Le.non _
    | exact Le.rf _
    | refine Le.grd ?_
    | refine Le.bind ?_ (fun _ => ?_)
    | refine Le.cond ?_ ?_
    | refine Le.map ?_
    | refine Le.elim (fun _ => ?_) (fun _ => ?_)
    | refine Le.loop (fun _ => ?_)
    | refine Le.loopF (fun _ => ?_)
theorem LE_slices_Backward_retrace_api_Def_retrace_api_Def_1_J1 (x19 : Int) : Le (X_slices_Backward_retrace_api_Def_retrace_api_Def_1_J1 x19) (F_slices_Backward_retrace_api_Def_retrace_api_Def_1_J1 x19) := by
  unfold X_slices_Backward_retrace_api_Def_retrace_api_Def_1_J1 F_slices_Backward_retrace_api_Def_retrace_api_Def_1_J1
  repeat' with_reducible first
    | exact Le.non _
    | exact Le.rf _
    | refine Le.grd ?_
    | refine Le.bind ?_ (fun _ => ?_)
    | refine Le.cond ?_ ?_
    | refine Le.map ?_
    | refine Le.elim (fun _ => ?_) (fun _ => ?_)
    | refine Le.loop (fun _ => ?_)
    | refine Le.loopF (fun _ => ?_)
theorem LE_slices_Backward_retrace_api_Def_retrace_api_Def_1_J2 (x1 : Int) : Le (X_slices_Backward_retrace_api_Def_retrace_api_Def_1_J2 x1) (F_slices_Backward_retrace_api_Def_retrace_api_Def_1_J2 x1) := by
  unfold X_slices_Backward_retrace_api_Def_retrace_api_Def_1_J2 F_slices_Backward_retrace_api_Def_retrace_api_Def_1_J2
  repeat' with_reducible first
    | exact Le.non _
    | exact Le.rf _
    | refine Le.grd ?_
    | refine Le.bind ?_ (fun _ => ?_)
    | refine Le.cond ?_ ?_
    | refine Le.map ?_
    | refine Le.elim (fun _ => ?_) (fun _ => ?_)
    | refine Le.loop (fun _ => ?_)
    | refine Le.loopF (fun _ => ?_)
theorem LE_slices_Backward_retrace_api_Def_retrace_api_Def_1_L3 (o1_0 : Int) (o2_0 : Int) (o3_0 : (List T_api_Def)) (x1 : Int) : Le (X_slices_Backward_retrace_api_Def_retrace_api_Def_1_L3 o1_0 o2_0 o3_0 x1) (F_slices_Backward_retrace_api_Def_retrace_api_Def_1_L3 o1_0 o2_0 o3_0 x1) := by
  unfold X_slices_Backward_retrace_api_Def_retrace_api_Def_1_L3 F_slices_Backward_retrace_api_Def_retrace_api_Def_1_L3
  repeat' with_reducible first
    | apply LE_R_code_Routine_0
    | apply LE_slices_Backward_retrace_api_Def_retrace_api_Def_1_J1
    | apply LE_slices_Backward_retrace_api_Def_retrace_api_Def_1_J2
    | exact Le.non _
    | exact Le.rf _
    | refine Le.grd ?_
    | refine Le.bind ?_ (fun _ => ?_)
    | refine Le.cond ?_ ?_
    | refine Le.map ?_
    | refine Le.elim (fun _ => ?_) (fun _ => ?_)
    | refine Le.loop (fun _ => ?_)
    | refine Le.loopF (fun _ => ?_)
theorem LE_slices_Backward_retrace_api_Def_retrace_api_Def_1 (o1_0 : Int) (o2_0 : Int) (o3_0 : (List T_api_Def)) : Le (X_slices_Backward_retrace_api_Def_retrace_api_Def_1 o1_0 o2_0 o3_0) (F_slices_Backward_retrace_api_Def_retrace_api_Def_1 o1_0 o2_0 o3_0) := by
  unfold X_slices_Backward_retrace_api_Def_retrace_api_Def_1 F_slices_Backward_retrace_api_Def_retrace_api_Def_1
  repeat' with_reducible first
    | apply LE_slices_Backward_retrace_api_Def_retrace_api_Def_1_L3
    | exact Le.non _
    | exact Le.rf _
    | refine Le.grd ?_
    | refine Le.bind ?_ (fun _ => ?_)
    | refine Le.cond ?_ ?_
    | refine Le.map ?_
    | refine Le.elim (fun _ => ?_) (fun _ => ?_)
    | refine Le.loop (fun _ => ?_)
    | refine Le.loopF (fun _ => ?_)
theorem LE_code_Routine_J1 (p0 : T_api_Code) (p1 : Int) (x6 : Bool) : Le (X_code_Routine_J1 p0 p1 x6) (F_code_Routine_J1 p0 p1 x6) := by
  unfold X_code_Routine_J1 F_code_Routine_J1
  repeat' with_reducible first
    | apply LE_slices_Backward_retrace_api_Def_retrace_api_Def
    | apply LE_slices_Backward_retrace_api_Def_retrace_api_Def_1
    | exact Le.non _
    | exact Le.rf _
    | refine Le.grd ?_
    | refine Le.bind ?_ (fun _ => ?_)
    | refine Le.cond ?_ ?_
    | refine Le.map ?_
    | refine Le.elim (fun _ => ?_) (fun _ => ?_)
    | refine Le.loop (fun _ => ?_)
    | refine Le.loopF (fun _ => ?_)
theorem LE_code_Routine (p0 : T_api_Code) (p1 : Int) : Le (X_code_Routine p0 p1) (F_code_Routine p0 p1) := by
  unfold X_code_Routine F_code_Routine
  repeat' with_reducible first
    | apply LE_code_Routine_J1
    | exact Le.non _
    | exact Le.rf _
    | refine Le.grd ?_
    | refine Le.bind ?_ (fun _ => ?_)
    | refine Le.cond ?_ ?_
    | refine Le.map ?_
    | refine Le.elim (fun _ => ?_) (fun _ => ?_)
    | refine Le.loop (fun _ => ?_)
    | refine Le.loopF (fun _ => ?_)
theorem LE_proc_op_J1 (p0 : T_api_Code) (p2 : Int) (x12 : Bool) : Le (X_proc_op_J1 p0 p2 x12) (F_proc_op_J1 p0 p2 x12) := by
  unfold X_proc_op_J1 F_proc_op_J1
  repeat' with_reducible first
    | exact Le.non _
    | exact Le.rf _
    | refine Le.grd ?_
    | refine Le.bind ?_ (fun _ => ?_)
    | refine Le.cond ?_ ?_
    | refine Le.map ?_
    | refine Le.elim (fun _ => ?_) (fun _ => ?_)
    | refine Le.loop (fun _ => ?_)
    | refine Le.loopF (fun _ => ?_)
theorem LE_proc_op (p0 : T_api_Code) (p1 : T_api_Proc) (p2 : Int) : Le (X_proc_op p0 p1 p2) (F_proc_op p0 p1 p2) := by
  unfold X_proc_op F_proc_op
  repeat' with_reducible first
    | apply LE_proc_op_J1
    | apply LE_code_Routine
    | exact Le.non _
    | exact Le.rf _
    | refine Le.grd ?_
    | refine Le.bind ?_ (fun _ => ?_)
    | refine Le.cond ?_ ?_
    | refine Le.map ?_
    | refine Le.elim (fun _ => ?_) (fun _ => ?_)
    | refine Le.loop (fun _ => ?_)
    | refine Le.loopF (fun _ => ?_)
theorem LE_proc_looks_1 (o0 : T_api_Code) (o1 : T_api_Proc) : Le (X_proc_looks_1 o0 o1) (F_proc_looks_1 o0 o1) := by
  unfold X_proc_looks_1 F_proc_looks_1
  repeat' with_reducible first
    | apply LE_proc_op
    | exact Le.non _
    | exact Le.rf _
    | refine Le.grd ?_
    | refine Le.bind ?_ (fun _ => ?_)
    | refine Le.cond ?_ ?_
    | refine Le.map ?_
    | refine Le.elim (fun _ => ?_) (fun _ => ?_)
    | refine Le.loop (fun _ => ?_)
    | refine Le.loopF (fun _ => ?_)
theorem LE_proc_looks_2_J1 (x4 : Bool) : Le (X_proc_looks_2_J1 x4) (F_proc_looks_2_J1 x4) := by
  unfold X_proc_looks_2_J1 F_proc_looks_2_J1
  repeat' with_reducible first
    | exact Le.non _
    | exact Le.rf _
    | refine Le.grd ?_
    | refine Le.bind ?_ (fun _ => ?_)
    | refine Le.cond ?_ ?_
    | refine Le.map ?_
    | refine Le.elim (fun _ => ?_) (fun _ => ?_)
    | refine Le.loop (fun _ => ?_)
    | refine Le.loopF (fun _ => ?_)
theorem LE_proc_looks_2 (p0 : Int) (o0 : T_api_Code) (o1 : T_api_Proc) : Le (X_proc_looks_2 p0 o0 o1) (F_proc_looks_2 p0 o0 o1) := by
  unfold X_proc_looks_2 F_proc_looks_2
  repeat' with_reducible first
    | apply LE_proc_op
    | apply LE_proc_looks_2_J1
    | exact Le.non _
    | exact Le.rf _
    | refine Le.grd ?_
    | refine Le.bind ?_ (fun _ => ?_)
    | refine Le.cond ?_ ?_
    | refine Le.map ?_
    | refine Le.elim (fun _ => ?_) (fun _ => ?_)
    | refine Le.loop (fun _ => ?_)
    | refine Le.loopF (fun _ => ?_)
theorem LE_proc_Chans_L1 (p0 : T_api_Code) (x13 : Int) (x14 : Int) : Le (X_proc_Chans_L1 p0 x13 x14) (F_proc_Chans_L1 p0 x13 x14) := by
  unfold X_proc_Chans_L1 F_proc_Chans_L1
  repeat' with_reducible first
    | exact Le.non _
    | exact Le.rf _
    | refine Le.grd ?_
    | refine Le.bind ?_ (fun _ => ?_)
    | refine Le.cond ?_ ?_
    | refine Le.map ?_
    | refine Le.elim (fun _ => ?_) (fun _ => ?_)
    | refine Le.loop (fun _ => ?_)
    | refine Le.loopF (fun _ => ?_)
theorem LE_proc_Chans (p0 : T_api_Code) : Le (X_proc_Chans p0) (F_proc_Chans p0) := by
  unfold X_proc_Chans F_proc_Chans
  repeat' with_reducible first
    | apply LE_proc_Chans_L1
    | exact Le.non _
    | exact Le.rf _
    | refine Le.grd ?_
    | refine Le.bind ?_ (fun _ => ?_)
    | refine Le.cond ?_ ?_
    | refine Le.map ?_
    | refine Le.elim (fun _ => ?_) (fun _ => ?_)
    | refine Le.loop (fun _ => ?_)
    | refine Le.loopF (fun _ => ?_)
theorem LE_proc_looks_3 (p0 : Int) (o0 : T_api_Code) : Le (X_proc_looks_3 p0 o0) (F_proc_looks_3 p0 o0) := by
  unfold X_proc_looks_3 F_proc_looks_3
  repeat' with_reducible first
    | apply LE_proc_Chans
    | apply LE_proc_within
    | exact Le.non _
    | exact Le.rf _
    | refine Le.grd ?_
    | refine Le.bind ?_ (fun _ => ?_)
    | refine Le.cond ?_ ?_
    | refine Le.map ?_
    | refine Le.elim (fun _ => ?_) (fun _ => ?_)
    | refine Le.loop (fun _ => ?_)
    | refine Le.loopF (fun _ => ?_)
theorem LE_proc_looks_6_J1 (x4 : Bool) : Le (X_proc_looks_6_J1 x4) (F_proc_looks_6_J1 x4) := by
  unfold X_proc_looks_6_J1 F_proc_looks_6_J1
  repeat' with_reducible first
    | exact Le.non _
    | exact Le.rf _
    | refine Le.grd ?_
    | refine Le.bind ?_ (fun _ => ?_)
    | refine Le.cond ?_ ?_
    | refine Le.map ?_
    | refine Le.elim (fun _ => ?_) (fun _ => ?_)
    | refine Le.loop (fun _ => ?_)
    | refine Le.loopF (fun _ => ?_)
theorem LE_proc_looks_6 (o1 : T_api_Code) (o2 : T_api_Proc) : Le (X_proc_looks_6 o1 o2) (F_proc_looks_6 o1 o2) := by
  unfold X_proc_looks_6 F_proc_looks_6
  repeat' with_reducible first
    | apply LE_proc_looks_2
    | apply LE_proc_looks_3
    | apply LE_proc_looks_6_J1
    | exact Le.non _
    | exact Le.rf _
    | refine Le.grd ?_
    | refine Le.bind ?_ (fun _ => ?_)
    | refine Le.cond ?_ ?_
    | refine Le.map ?_
    | refine Le.elim (fun _ => ?_) (fun _ => ?_)
    | refine Le.loop (fun _ => ?_)
    | refine Le.loopF (fun _ => ?_)
theorem LE_proc_looks_4 (p0 : Int) (o0 : T_api_Proc) : Le (X_proc_looks_4 p0 o0) (F_proc_looks_4 p0 o0) := by
  unfold X_proc_looks_4 F_proc_looks_4
  repeat' with_reducible first
    | apply LE_proc_within
    | exact Le.non _
    | exact Le.rf _
    | refine Le.grd ?_
    | refine Le.bind ?_ (fun _ => ?_)
    | refine Le.cond ?_ ?_
    | refine Le.map ?_
    | refine Le.elim (fun _ => ?_) (fun _ => ?_)
    | refine Le.loop (fun _ => ?_)
    | refine Le.loopF (fun _ => ?_)
theorem LE_proc_looks_7_J1 (x6 : Bool) : Le (X_proc_looks_7_J1 x6) (F_proc_looks_7_J1 x6) := by
  unfold X_proc_looks_7_J1 F_proc_looks_7_J1
  repeat' with_reducible first
    | exact Le.non _
    | exact Le.rf _
    | refine Le.grd ?_
    | refine Le.bind ?_ (fun _ => ?_)
    | refine Le.cond ?_ ?_
    | refine Le.map ?_
    | refine Le.elim (fun _ => ?_) (fun _ => ?_)
    | refine Le.loop (fun _ => ?_)
    | refine Le.loopF (fun _ => ?_)
theorem LE_proc_looks_7 (o1 : T_api_Code) (o2 : T_api_Proc) : Le (X_proc_looks_7 o1 o2) (F_proc_looks_7 o1 o2) := by
  unfold X_proc_looks_7 F_proc_looks_7
  repeat' with_reducible first
    | apply LE_proc_looks_2
    | apply LE_proc_looks_3
    | apply LE_proc_looks_4
    | apply LE_proc_looks_7_J1
    | exact Le.non _
    | exact Le.rf _
    | refine Le.grd ?_
    | refine Le.bind ?_ (fun _ => ?_)
    | refine Le.cond ?_ ?_
    | refine Le.map ?_
    | refine Le.elim (fun _ => ?_) (fun _ => ?_)
    | refine Le.loop (fun _ => ?_)
    | refine Le.loopF (fun _ => ?_)
theorem LE_proc_looks_5_J2 (x19 : Bool) : Le (X_proc_looks_5_J2 x19) (F_proc_looks_5_J2 x19) := by
  unfold X_proc_looks_5_J2 F_proc_looks_5_J2
  repeat' with_reducible first
    | exact Le.non _
    | exact Le.rf _
    | refine Le.grd ?_
    | refine Le.bind ?_ (fun _ => ?_)
    | refine Le.cond ?_ ?_
    | refine Le.map ?_
    | refine Le.elim (fun _ => ?_) (fun _ => ?_)
    | refine Le.loop (fun _ => ?_)
    | refine Le.loopF (fun _ => ?_)
theorem LE_proc_looks_5_J1 (p0 : T_api_Alt) (x14 : Bool) (x15 : Int) (x16 : Int) (x17 : Int) : Le (X_proc_looks_5_J1 p0 x14 x15 x16 x17) (F_proc_looks_5_J1 p0 x14 x15 x16 x17) := by
  unfold X_proc_looks_5_J1 F_proc_looks_5_J1
  repeat' with_reducible first
    | apply LE_proc_looks_5_J2
    | exact Le.non _
    | exact Le.rf _
    | refine Le.grd ?_
    | refine Le.bind ?_ (fun _ => ?_)
    | refine Le.cond ?_ ?_
    | refine Le.map ?_
    | refine Le.elim (fun _ => ?_) (fun _ => ?_)
    | refine Le.loop (fun _ => ?_)
    | refine Le.loopF (fun _ => ?_)
theorem LE_proc_looks_5 (p0 : T_api_Alt) (o1 : T_api_Code) (o2 : T_api_Proc) : Le (X_proc_looks_5 p0 o1 o2) (F_proc_looks_5 p0 o1 o2) := by
  unfold X_proc_looks_5 F_proc_looks_5
  repeat' with_reducible first
    | apply LE_proc_looks_2
    | apply LE_proc_looks_3
    | apply LE_proc_looks_4
    | apply LE_proc_looks_5_J1
    | apply LE_proc_within
    | exact Le.non _
    | exact Le.rf _
    | refine Le.grd ?_
    | refine Le.bind ?_ (fun _ => ?_)
    | refine Le.cond ?_ ?_
    | refine Le.map ?_
    | refine Le.elim (fun _ => ?_) (fun _ => ?_)
    | refine Le.loop (fun _ => ?_)
    | refine Le.loopF (fun _ => ?_)
theorem LE_proc_looks_8_1 (p0 : T_api_Alt) (o2 : T_api_Code) (o3 : T_api_Proc) : Le (X_proc_looks_8_1 p0 o2 o3) (F_proc_looks_8_1 p0 o2 o3) := by
  unfold X_proc_looks_8_1 F_proc_looks_8_1
  repeat' with_reducible first
    | apply LE_proc_looks_5
    | exact Le.non _
    | exact Le.rf _
    | refine Le.grd ?_
    | refine Le.bind ?_ (fun _ => ?_)
    | refine Le.cond ?_ ?_
    | refine Le.map ?_
    | refine Le.elim (fun _ => ?_) (fun _ => ?_)
    | refine Le.loop (fun _ => ?_)
    | refine Le.loopF (fun _ => ?_)
theorem LE_slices_IndexFunc_retrace_api_Alt_retrace_api_Alt_L1 (p0 : (List T_api_Alt)) (o2 : T_api_Code) (o3 : T_api_Proc) (x20 : Int) : Le (X_slices_IndexFunc_retrace_api_Alt_retrace_api_Alt_L1 p0 o2 o3 x20) (F_slices_IndexFunc_retrace_api_Alt_retrace_api_Alt_L1 p0 o2 o3 x20) := by
  unfold X_slices_IndexFunc_retrace_api_Alt_retrace_api_Alt_L1 F_slices_IndexFunc_retrace_api_Alt_retrace_api_Alt_L1
  repeat' with_reducible first
    | apply LE_proc_looks_8_1
    | exact Le.non _
    | exact Le.rf _
    | refine Le.grd ?_
    | refine Le.bind ?_ (fun _ => ?_)
    | refine Le.cond ?_ ?_
    | refine Le.map ?_
    | refine Le.elim (fun _ => ?_) (fun _ => ?_)
    | refine Le.loop (fun _ => ?_)
    | refine Le.loopF (fun _ => ?_)
theorem LE_slices_IndexFunc_retrace_api_Alt_retrace_api_Alt (p0 : (List T_api_Alt)) (o2 : T_api_Code) (o3 : T_api_Proc) : Le (X_slices_IndexFunc_retrace_api_Alt_retrace_api_Alt p0 o2 o3) (F_slices_IndexFunc_retrace_api_Alt_retrace_api_Alt p0 o2 o3) := by
  unfold X_slices_IndexFunc_retrace_api_Alt_retrace_api_Alt F_slices_IndexFunc_retrace_api_Alt_retrace_api_Alt
  repeat' with_reducible first
    | apply LE_slices_IndexFunc_retrace_api_Alt_retrace_api_Alt_L1
    | exact Le.non _
    | exact Le.rf _
    | refine Le.grd ?_
    | refine Le.bind ?_ (fun _ => ?_)
    | refine Le.cond ?_ ?_
    | refine Le.map ?_
    | refine Le.elim (fun _ => ?_) (fun _ => ?_)
    | refine Le.loop (fun _ => ?_)
    | refine Le.loopF (fun _ => ?_)
theorem LE_slices_ContainsFunc_retrace_api_Alt_retrace_api_Alt (p0 : (List T_api_Alt)) (o2 : T_api_Code) (o3 : T_api_Proc) : Le (X_slices_ContainsFunc_retrace_api_Alt_retrace_api_Alt p0 o2 o3) (F_slices_ContainsFunc_retrace_api_Alt_retrace_api_Alt p0 o2 o3) := by
  unfold X_slices_ContainsFunc_retrace_api_Alt_retrace_api_Alt F_slices_ContainsFunc_retrace_api_Alt_retrace_api_Alt
  repeat' with_reducible first
    | apply LE_slices_IndexFunc_retrace_api_Alt_retrace_api_Alt
    | exact Le.non _
    | exact Le.rf _
    | refine Le.grd ?_
    | refine Le.bind ?_ (fun _ => ?_)
    | refine Le.cond ?_ ?_
    | refine Le.map ?_
    | refine Le.elim (fun _ => ?_) (fun _ => ?_)
    | refine Le.loop (fun _ => ?_)
    | refine Le.loopF (fun _ => ?_)
theorem LE_proc_looks_8_J1 (x4 : Bool) : Le (X_proc_looks_8_J1 x4) (F_proc_looks_8_J1 x4) := by
  unfold X_proc_looks_8_J1 F_proc_looks_8_J1
  repeat' with_reducible first
    | exact Le.non _
    | exact Le.rf _
    | refine Le.grd ?_
    | refine Le.bind ?_ (fun _ => ?_)
    | refine Le.cond ?_ ?_
    | refine Le.map ?_
    | refine Le.elim (fun _ => ?_) (fun _ => ?_)
    | refine Le.loop (fun _ => ?_)
    | refine Le.loopF (fun _ => ?_)
theorem LE_proc_looks_8 (o1 : T_api_Code) (o2 : T_api_Proc) : Le (X_proc_looks_8 o1 o2) (F_proc_looks_8 o1 o2) := by
  unfold X_proc_looks_8 F_proc_looks_8
  repeat' with_reducible first
    | apply LE_proc_looks_1
    | apply LE_slices_ContainsFunc_retrace_api_Alt_retrace_api_Alt
    | apply LE_proc_looks_8_J1
    | exact Le.non _
    | exact Le.rf _
    | refine Le.grd ?_
    | refine Le.bind ?_ (fun _ => ?_)
    | refine Le.cond ?_ ?_
    | refine Le.map ?_
    | refine Le.elim (fun _ => ?_) (fun _ => ?_)
    | refine Le.loop (fun _ => ?_)
    | refine Le.loopF (fun _ => ?_)
theorem LE_proc_looks_9_J1 (x4 : Bool) : Le (X_proc_looks_9_J1 x4) (F_proc_looks_9_J1 x4) := by
  unfold X_proc_looks_9_J1 F_proc_looks_9_J1
  repeat' with_reducible first
    | exact Le.non _
    | exact Le.rf _
    | refine Le.grd ?_
    | refine Le.bind ?_ (fun _ => ?_)
    | refine Le.cond ?_ ?_
    | refine Le.map ?_
    | refine Le.elim (fun _ => ?_) (fun _ => ?_)
    | refine Le.loop (fun _ => ?_)
    | refine Le.loopF (fun _ => ?_)
theorem LE_proc_looks_9 (o1 : T_api_Code) (o2 : T_api_Proc) : Le (X_proc_looks_9 o1 o2) (F_proc_looks_9 o1 o2) := by
  unfold X_proc_looks_9 F_proc_looks_9
  repeat' with_reducible first
    | apply LE_proc_looks_2
    | apply LE_proc_within
    | apply LE_proc_looks_9_J1
    | exact Le.non _
    | exact Le.rf _
    | refine Le.grd ?_
    | refine Le.bind ?_ (fun _ => ?_)
    | refine Le.cond ?_ ?_
    | refine Le.map ?_
    | refine Le.elim (fun _ => ?_) (fun _ => ?_)
    | refine Le.loop (fun _ => ?_)
    | refine Le.loopF (fun _ => ?_)
theorem LE_proc_looks_10 (o0 : T_api_Proc) : Le (X_proc_looks_10 o0) (F_proc_looks_10 o0) := by
  unfold X_proc_looks_10 F_proc_looks_10
  repeat' with_reducible first
    | exact Le.non _
    | exact Le.rf _
    | refine Le.grd ?_
    | refine Le.bind ?_ (fun _ => ?_)
    | refine Le.cond ?_ ?_
    | refine Le.map ?_
    | refine Le.elim (fun _ => ?_) (fun _ => ?_)
    | refine Le.loop (fun _ => ?_)
    | refine Le.loopF (fun _ => ?_)
theorem LE_proc_Check_J2 (x74 : Bool) : Le (X_proc_Check_J2 x74) (F_proc_Check_J2 x74) := by
  unfold X_proc_Check_J2 F_proc_Check_J2
  repeat' with_reducible first
    | exact Le.non _
    | exact Le.rf _
    | refine Le.grd ?_
    | refine Le.bind ?_ (fun _ => ?_)
    | refine Le.cond ?_ ?_
    | refine Le.map ?_
    | refine Le.elim (fun _ => ?_) (fun _ => ?_)
    | refine Le.loop (fun _ => ?_)
    | refine Le.loopF (fun _ => ?_)
theorem LE_proc_Check_J1 (p0 : T_api_Code) (p1 : T_api_Proc) (x8 : Bool) : Le (X_proc_Check_J1 p0 p1 x8) (F_proc_Check_J1 p0 p1 x8) := by
  unfold X_proc_Check_J1 F_proc_Check_J1
  repeat' with_reducible first
    | apply LE_proc_Check_J2
    | apply LE_proc_bare
    | apply LE_proc_Same
    | apply LE_proc_looks
    | apply LE_proc_looks_1
    | apply LE_proc_looks_6
    | apply LE_proc_looks_7
    | apply LE_proc_looks_8
    | apply LE_proc_looks_9
    | apply LE_proc_looks_10
    | exact Le.non _
    | exact Le.rf _
    | refine Le.grd ?_
    | refine Le.bind ?_ (fun _ => ?_)
    | refine Le.cond ?_ ?_
    | refine Le.map ?_
    | refine Le.elim (fun _ => ?_) (fun _ => ?_)
    | refine Le.loop (fun _ => ?_)
    | refine Le.loopF (fun _ => ?_)
theorem LE_proc_Check (p0 : T_api_Code) (p1 : T_api_Proc) : Le (X_proc_Check p0 p1) (F_proc_Check p0 p1) := by
  unfold X_proc_Check F_proc_Check
  repeat' with_reducible first
    | apply LE_proc_within
    | apply LE_proc_Check_J1
    | exact Le.non _
    | exact Le.rf _
    | refine Le.grd ?_
    | refine Le.bind ?_ (fun _ => ?_)
    | refine Le.cond ?_ ?_
    | refine Le.map ?_
    | refine Le.elim (fun _ => ?_) (fun _ => ?_)
    | refine Le.loop (fun _ => ?_)
    | refine Le.loopF (fun _ => ?_)
theorem LE_retracelaw22_live_J1 (x11 : Bool) : Le (X_retracelaw22_live_J1 x11) (F_retracelaw22_live_J1 x11) := by
  unfold X_retracelaw22_live_J1 F_retracelaw22_live_J1
  repeat' with_reducible first
    | exact Le.non _
    | exact Le.rf _
    | refine Le.grd ?_
    | refine Le.bind ?_ (fun _ => ?_)
    | refine Le.cond ?_ ?_
    | refine Le.map ?_
    | refine Le.elim (fun _ => ?_) (fun _ => ?_)
    | refine Le.loop (fun _ => ?_)
    | refine Le.loopF (fun _ => ?_)
theorem LE_retracelaw22_live  : Le (X_retracelaw22_live ) (F_retracelaw22_live ) := by
  unfold X_retracelaw22_live F_retracelaw22_live
  repeat' with_reducible first
    | apply LE_retraceref19_Text
    | apply LE_proc_New
    | apply LE_proc_Check
    | apply LE_proc_Same
    | apply LE_retracelaw22_live_J1
    | exact Le.non _
    | exact Le.rf _
    | refine Le.grd ?_
    | refine Le.bind ?_ (fun _ => ?_)
    | refine Le.cond ?_ ?_
    | refine Le.map ?_
    | refine Le.elim (fun _ => ?_) (fun _ => ?_)
    | refine Le.loop (fun _ => ?_)
    | refine Le.loopF (fun _ => ?_)
theorem ev_retracelaw22_live : F_retracelaw22_live = some true := LE_retracelaw22_live _ (by kernel_rfl)
end Go.Ab
