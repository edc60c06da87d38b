import Derived.Test.YtholdfpblliiiaaGreatGRb
import Derived.Test.YtholdfpblliiiaaGreatAbEval
namespace Go.Ab
open Go.Proofs
set_option linter.unusedVariables false
set_option maxRecDepth 100000
noncomputable def X_retraceref19_Text (p0 : ByteArray) : Option (T_retraceref19_Got) :=
  cond (sEq p0 ⟨#[109, 97, 105, 110, 32, 123, 32, 118, 97, 114, 32, 120, 32, 61, 32, 49, 32, 47, 32, 48, 59, 32, 125]⟩) (some ⟨⟨[⟨1, 0, 0⟩, ⟨2, 1, 0⟩, ⟨2, 0, 0⟩, ⟨5, 8, 0⟩, ⟨4, 0, 0⟩, ⟨24, 0, 0⟩], [⟨⟨#[109, 97, 105, 110]⟩, 0, 0, 1⟩], [], 0, 1⟩, 0, 0⟩) none
noncomputable def X_code_Stmt_J1 (p0 : T_api_Code) (p1 : Int) (x12 : Bool) : Option (Int) :=
  cond x12 (some (-1)) ((lAt p0.Ins p1).bind fun y15 => some y15.A)
noncomputable def X_code_Stmt (p0 : T_api_Code) (p1 : Int) : Option (Int) :=
  cond (decide (p1 < 0)) (X_code_Stmt_J1 p0 p1 true) (cond (decide (((p0.Ins).length : Int) ≤ p1)) (X_code_Stmt_J1 p0 p1 true) ((lAt p0.Ins p1).bind fun y18 => X_code_Stmt_J1 p0 p1 (y18.Op != 1)))
noncomputable def X_stack_New_int (p0 : Int) : Option (T_stack_Stack_int_) :=
  some (⟨([] : (List Int)), (if 0 > p0 then 0 else p0)⟩ : T_stack_Stack_int_)
noncomputable def X_stack_Stack_int_Room (o0 : T_stack_Stack_int_) : Option (Int) :=
  some (w64 (o0.most - ((o0.l).length : Int)))
noncomputable def X_stack_Stack_int_Push (p1 : Int) (o0 : T_stack_Stack_int_) : Option (Bool × T_stack_Stack_int_) :=
  (X_stack_Stack_int_Room o0).bind fun y5 => cond (y5 == 0) (some (false, o0)) (grd (((o0.l).length + ([p1]).length) * 8 ≤ 140737488355328) <| some (true, (⟨(o0.l ++ [p1]), o0.most⟩ : T_stack_Stack_int_)))
noncomputable def X_run_runner_end (p1 : Int) (p2 : Int) (o0_0 : (List T_api_Ins)) (o0_1 : (List T_api_Def)) (o0_2 : (List T_api_Chan)) (o0_3 : Int) (o0_4 : Int) (o0_5 : Int) (o0_6 : Int) (o0_8 : Int) (o0_9 : Int) (o0_10 : Int) (o0_11 : Int) (o0_12 : Int) (o0_13 : Int) (o0_14 : Int) (o0_15 : (List T_api_Alt)) (o0_17 : Int) (o0_18 : Int) (o0_19 : Int) (o0_20 : Int) (o0_21 : Int) (o0_22 : Int) (o0_23 : Int) (o0_24 : Int) (o0_27 : Int) (o0_28 : Bool) (o2 : T_stack_Stack_int_) (o1 : (List Int)) (o4 : (List Int)) (o5 : (List T_api_Alt)) : Option ((List T_api_Ins) × (List T_api_Def) × (List T_api_Chan) × Int × Int × Int × Int × Int × Int × Int × Int × Int × Int × Int × (List T_api_Alt) × Int × Int × Int × Int × Int × Int × Int × Int × Int × Bool) :=
  some (o0_0, o0_1, o0_2, o0_3, o0_4, o0_5, o0_6, o0_8, o0_9, o0_10, o0_11, o0_12, o0_13, o0_14, o0_15, o0_17, p1, o0_19, p2, o0_21, o0_22, o0_23, o0_24, o0_27, true)
noncomputable def X_run_runner_fault (p1 : Int) (o0_0 : (List T_api_Ins)) (o0_1 : (List T_api_Def)) (o0_2 : (List T_api_Chan)) (o0_3 : Int) (o0_4 : Int) (o0_5 : Int) (o0_6 : Int) (o0_8 : Int) (o0_9 : Int) (o0_10 : Int) (o0_11 : Int) (o0_12 : Int) (o0_13 : Int) (o0_14 : Int) (o0_15 : (List T_api_Alt)) (o0_17 : Int) (o0_18 : Int) (o0_19 : Int) (o0_20 : Int) (o0_21 : Int) (o0_22 : Int) (o0_23 : Int) (o0_24 : Int) (o0_27 : Int) (o0_28 : Bool) (o2 : T_stack_Stack_int_) (o1 : (List Int)) (o4 : (List Int)) (o5 : (List T_api_Alt)) : Option ((List T_api_Ins) × (List T_api_Def) × (List T_api_Chan) × Int × Int × Int × Int × Int × Int × Int × Int × Int × Int × Int × (List T_api_Alt) × Int × Int × Int × Int × Int × Int × Int × Int × Int × Bool × (List Int) × (List T_api_Alt)) :=
  (X_run_runner_end 11 0 o0_0 o0_1 o0_2 o0_3 o0_4 o0_5 o0_6 o0_8 o0_9 o0_10 o0_11 o0_12 o0_13 o0_14 o0_15 o0_17 0 o0_19 0 0 0 0 0 p1 o0_28 o2 o1 ([] : List Int) ([] : List T_api_Alt)).bind fun y1 => some (y1.1, y1.2.1, y1.2.2.1, y1.2.2.2.1, y1.2.2.2.2.1, y1.2.2.2.2.2.1, y1.2.2.2.2.2.2.1, y1.2.2.2.2.2.2.2.1, y1.2.2.2.2.2.2.2.2.1, y1.2.2.2.2.2.2.2.2.2.1, y1.2.2.2.2.2.2.2.2.2.2.1, y1.2.2.2.2.2.2.2.2.2.2.2.1, y1.2.2.2.2.2.2.2.2.2.2.2.2.1, y1.2.2.2.2.2.2.2.2.2.2.2.2.2.1, y1.2.2.2.2.2.2.2.2.2.2.2.2.2.2.1, y1.2.2.2.2.2.2.2.2.2.2.2.2.2.2.2.1, y1.2.2.2.2.2.2.2.2.2.2.2.2.2.2.2.2.1, y1.2.2.2.2.2.2.2.2.2.2.2.2.2.2.2.2.2.1, y1.2.2.2.2.2.2.2.2.2.2.2.2.2.2.2.2.2.2.1, y1.2.2.2.2.2.2.2.2.2.2.2.2.2.2.2.2.2.2.2.1, y1.2.2.2.2.2.2.2.2.2.2.2.2.2.2.2.2.2.2.2.2.1, y1.2.2.2.2.2.2.2.2.2.2.2.2.2.2.2.2.2.2.2.2.2.1, y1.2.2.2.2.2.2.2.2.2.2.2.2.2.2.2.2.2.2.2.2.2.2.1, y1.2.2.2.2.2.2.2.2.2.2.2.2.2.2.2.2.2.2.2.2.2.2.2.1, y1.2.2.2.2.2.2.2.2.2.2.2.2.2.2.2.2.2.2.2.2.2.2.2.2, ([] : List Int), ([] : List T_api_Alt))
noncomputable def X_run_runner_lay_J1 (x1 : Int) (x41 : (List T_api_Ins)) (x42 : (List T_api_Def)) (x43 : (List T_api_Chan)) (x44 : Int) (x45 : Int) (x46 : Int) (x47 : Int) (x48 : Int) (x49 : Int) (x50 : Int) (x51 : Int) (x52 : Int) (x53 : Int) (x54 : Int) (x55 : (List T_api_Alt)) (x56 : Int) (x57 : Int) (x58 : Int) (x59 : Int) (x60 : Int) (x61 : Int) (x62 : Int) (x63 : Int) (x64 : Int) (x65 : Bool) (x66 : Int) (x67 : (List Int)) (x68 : (List Int)) (x69 : (List T_api_Alt)) : Option ((Int × (List T_api_Ins) × (List T_api_Def) × (List T_api_Chan) × Int × Int × Int × Int × Int × Int × Int × Int × Int × Int × Int × (List T_api_Alt) × Int × Int × Int × Int × Int × Int × Int × Int × Int × Bool × Int × (List Int) × (List Int) × (List T_api_Alt)) ⊕ ((List T_api_Ins) × (List T_api_Def) × (List T_api_Chan) × Int × Int × Int × Int × Int × Int × Int × Int × Int × Int × Int × (List T_api_Alt) × Int × Int × Int × Int × Int × Int × Int × Int × Int × Bool × T_stack_Stack_int_ × (List Int) × (List T_api_Alt))) :=
  some (.inl ((w64 (x1 + 1)), x41, x42, x43, x44, x45, x46, x47, x48, x49, x50, x51, x52, x53, x54, x55, x56, x57, x58, x59, x60, x61, x62, x63, x64, x65, x66, x67, x68, x69))
noncomputable def X_run_runner_lay_L2 (o1 : (List Int)) (o6 : (List Int)) (x1 : Int) (x2 : (List T_api_Ins)) (x3 : (List T_api_Def)) (x4 : (List T_api_Chan)) (x5 : Int) (x6 : Int) (x7 : Int) (x8 : Int) (x9 : Int) (x10 : Int) (x11 : Int) (x12 : Int) (x13 : Int) (x14 : Int) (x15 : Int) (x16 : (List T_api_Alt)) (x17 : Int) (x18 : Int) (x19 : Int) (x20 : Int) (x21 : Int) (x22 : Int) (x23 : Int) (x24 : Int) (x25 : Int) (x26 : Bool) (x27 : Int) (x28 : (List Int)) (x29 : (List Int)) (x30 : (List T_api_Alt)) : Option ((Int × (List T_api_Ins) × (List T_api_Def) × (List T_api_Chan) × Int × Int × Int × Int × Int × Int × Int × Int × Int × Int × Int × (List T_api_Alt) × Int × Int × Int × Int × Int × Int × Int × Int × Int × Bool × Int × (List Int) × (List Int) × (List T_api_Alt)) ⊕ ((List T_api_Ins) × (List T_api_Def) × (List T_api_Chan) × Int × Int × Int × Int × Int × Int × Int × Int × Int × Int × Int × (List T_api_Alt) × Int × Int × Int × Int × Int × Int × Int × Int × Int × Bool × T_stack_Stack_int_ × (List Int) × (List T_api_Alt))) :=
  cond (decide (x1 < ((o6).length : Int))) ((lAt o6 x1).bind fun y71 => (X_stack_Stack_int_Push y71 (⟨x28, x27⟩ : T_stack_Stack_int_)).bind fun y73 => cond (!y73.1) ((X_run_runner_fault 2 x2 x3 x4 x5 x6 x7 x8 x9 x10 x11 x12 x13 x14 x15 x16 x17 x18 x19 x20 x21 x22 x23 x24 x25 x26 y73.2 o1 x29 x30).bind fun y75 => X_run_runner_lay_J1 x1 y75.1 y75.2.1 y75.2.2.1 y75.2.2.2.1 y75.2.2.2.2.1 y75.2.2.2.2.2.1 y75.2.2.2.2.2.2.1 y75.2.2.2.2.2.2.2.1 y75.2.2.2.2.2.2.2.2.1 y75.2.2.2.2.2.2.2.2.2.1 y75.2.2.2.2.2.2.2.2.2.2.1 y75.2.2.2.2.2.2.2.2.2.2.2.1 y75.2.2.2.2.2.2.2.2.2.2.2.2.1 y75.2.2.2.2.2.2.2.2.2.2.2.2.2.1 y75.2.2.2.2.2.2.2.2.2.2.2.2.2.2.1 y75.2.2.2.2.2.2.2.2.2.2.2.2.2.2.2.1 y75.2.2.2.2.2.2.2.2.2.2.2.2.2.2.2.2.1 y75.2.2.2.2.2.2.2.2.2.2.2.2.2.2.2.2.2.1 y75.2.2.2.2.2.2.2.2.2.2.2.2.2.2.2.2.2.2.1 y75.2.2.2.2.2.2.2.2.2.2.2.2.2.2.2.2.2.2.2.1 y75.2.2.2.2.2.2.2.2.2.2.2.2.2.2.2.2.2.2.2.2.1 y75.2.2.2.2.2.2.2.2.2.2.2.2.2.2.2.2.2.2.2.2.2.1 y75.2.2.2.2.2.2.2.2.2.2.2.2.2.2.2.2.2.2.2.2.2.2.1 y75.2.2.2.2.2.2.2.2.2.2.2.2.2.2.2.2.2.2.2.2.2.2.2.1 y75.2.2.2.2.2.2.2.2.2.2.2.2.2.2.2.2.2.2.2.2.2.2.2.2.1 y73.2.most y73.2.l y75.2.2.2.2.2.2.2.2.2.2.2.2.2.2.2.2.2.2.2.2.2.2.2.2.2.1 y75.2.2.2.2.2.2.2.2.2.2.2.2.2.2.2.2.2.2.2.2.2.2.2.2.2.2) (X_run_runner_lay_J1 x1 x2 x3 x4 x5 x6 x7 x8 x9 x10 x11 x12 x13 x14 x15 x16 x17 x18 x19 x20 x21 x22 x23 x24 x25 x26 y73.2.most y73.2.l x29 x30)) ((some (x2, x3, x4, x5, x6, x7, x8, x9, x10, x11, x12, x13, x14, x15, x16, x17, x18, x19, x20, x21, x22, x23, x24, x25, x26, (⟨x28, x27⟩ : T_stack_Stack_int_), x29, x30)).map Sum.inr)
noncomputable def X_run_runner_lay (o0_0 : (List T_api_Ins)) (o0_1 : (List T_api_Def)) (o0_2 : (List T_api_Chan)) (o0_3 : Int) (o0_4 : Int) (o0_5 : Int) (o0_6 : Int) (o0_8 : Int) (o0_9 : Int) (o0_10 : Int) (o0_11 : Int) (o0_12 : Int) (o0_13 : Int) (o0_14 : Int) (o0_15 : (List T_api_Alt)) (o0_17 : Int) (o0_18 : Int) (o0_19 : Int) (o0_20 : Int) (o0_21 : Int) (o0_22 : Int) (o0_23 : Int) (o0_24 : Int) (o0_27 : Int) (o0_28 : Bool) (o2 : T_stack_Stack_int_) (o1 : (List Int)) (o4 : (List Int)) (o5 : (List T_api_Alt)) (o6 : (List Int)) : Option ((List T_api_Ins) × (List T_api_Def) × (List T_api_Chan) × Int × Int × Int × Int × Int × Int × Int × Int × Int × Int × Int × (List T_api_Alt) × Int × Int × Int × Int × Int × Int × Int × Int × Int × Bool × T_stack_Stack_int_ × (List Int) × (List T_api_Alt)) :=
  Loopx (fun s : (Int × (List T_api_Ins) × (List T_api_Def) × (List T_api_Chan) × Int × Int × Int × Int × Int × Int × Int × Int × Int × Int × Int × (List T_api_Alt) × Int × Int × Int × Int × Int × Int × Int × Int × Int × Bool × Int × (List Int) × (List Int) × (List T_api_Alt)) => X_run_runner_lay_L2 o1 o6 s.1 s.2.1 s.2.2.1 s.2.2.2.1 s.2.2.2.2.1 s.2.2.2.2.2.1 s.2.2.2.2.2.2.1 s.2.2.2.2.2.2.2.1 s.2.2.2.2.2.2.2.2.1 s.2.2.2.2.2.2.2.2.2.1 s.2.2.2.2.2.2.2.2.2.2.1 s.2.2.2.2.2.2.2.2.2.2.2.1 s.2.2.2.2.2.2.2.2.2.2.2.2.1 s.2.2.2.2.2.2.2.2.2.2.2.2.2.1 s.2.2.2.2.2.2.2.2.2.2.2.2.2.2.1 s.2.2.2.2.2.2.2.2.2.2.2.2.2.2.2.1 s.2.2.2.2.2.2.2.2.2.2.2.2.2.2.2.2.1 s.2.2.2.2.2.2.2.2.2.2.2.2.2.2.2.2.2.1 s.2.2.2.2.2.2.2.2.2.2.2.2.2.2.2.2.2.2.1 s.2.2.2.2.2.2.2.2.2.2.2.2.2.2.2.2.2.2.2.1 s.2.2.2.2.2.2.2.2.2.2.2.2.2.2.2.2.2.2.2.2.1 s.2.2.2.2.2.2.2.2.2.2.2.2.2.2.2.2.2.2.2.2.2.1 s.2.2.2.2.2.2.2.2.2.2.2.2.2.2.2.2.2.2.2.2.2.2.1 s.2.2.2.2.2.2.2.2.2.2.2.2.2.2.2.2.2.2.2.2.2.2.2.1 s.2.2.2.2.2.2.2.2.2.2.2.2.2.2.2.2.2.2.2.2.2.2.2.2.1 s.2.2.2.2.2.2.2.2.2.2.2.2.2.2.2.2.2.2.2.2.2.2.2.2.2.1 s.2.2.2.2.2.2.2.2.2.2.2.2.2.2.2.2.2.2.2.2.2.2.2.2.2.2.1 s.2.2.2.2.2.2.2.2.2.2.2.2.2.2.2.2.2.2.2.2.2.2.2.2.2.2.2.1 s.2.2.2.2.2.2.2.2.2.2.2.2.2.2.2.2.2.2.2.2.2.2.2.2.2.2.2.2.1 s.2.2.2.2.2.2.2.2.2.2.2.2.2.2.2.2.2.2.2.2.2.2.2.2.2.2.2.2.2) (0, o0_0, o0_1, o0_2, o0_3, o0_4, o0_5, o0_6, o0_8, o0_9, o0_10, o0_11, o0_12, o0_13, o0_14, o0_15, o0_17, o0_18, o0_19, o0_20, o0_21, o0_22, o0_23, o0_24, o0_27, o0_28, o2.most, o2.l, o4, o5)
noncomputable def X_run_runner_slot_J1 (p1 : Int) (o1 : (List Int)) (x6 : Bool) : Option (Int) :=
  cond x6 (some 0) ((lAt o1 p1).bind fun y9 => some y9)
noncomputable def X_run_runner_slot (p1 : Int) (o0_0 : (List T_api_Ins)) (o0_1 : (List T_api_Def)) (o0_2 : (List T_api_Chan)) (o0_3 : Int) (o0_4 : Int) (o0_5 : Int) (o0_6 : Int) (o0_8 : Int) (o0_9 : Int) (o0_10 : Int) (o0_11 : Int) (o0_12 : Int) (o0_13 : Int) (o0_14 : Int) (o0_15 : (List T_api_Alt)) (o0_17 : Int) (o0_18 : Int) (o0_19 : Int) (o0_20 : Int) (o0_21 : Int) (o0_22 : Int) (o0_23 : Int) (o0_24 : Int) (o0_27 : Int) (o0_28 : Bool) (o2 : T_stack_Stack_int_) (o1 : (List Int)) (o4 : (List Int)) (o5 : (List T_api_Alt)) : Option (Int) :=
  cond (decide (p1 < 0)) (X_run_runner_slot_J1 p1 o1 true) (X_run_runner_slot_J1 p1 o1 (decide (((o1).length : Int) ≤ p1)))
noncomputable def X_arith_Wide_J2 (x13 : Bool) : Option (Int) :=
  cond x13 (some 2) (some 0)
noncomputable def X_arith_Wide_J1 (p0 : Int) (x10 : Bool) : Option (Int) :=
  cond x10 (some 1) (cond (decide (5 ≤ p0)) (X_arith_Wide_J2 (decide (p0 ≤ 17))) (X_arith_Wide_J2 false))
noncomputable def X_arith_Wide (p0 : Int) : Option (Int) :=
  cond (p0 == 3) (X_arith_Wide_J1 p0 true) (X_arith_Wide_J1 p0 (p0 == 4))
noncomputable def X_stack_Stack_int_Len (o0 : T_stack_Stack_int_) : Option (Int) :=
  some ((o0.l).length : Int)
noncomputable def X_slices_Clone_int_int (p0 : (List Int)) : Option ((List Int)) :=
  grd (((([] : List Int)).length + (p0).length) * 8 ≤ 140737488355328) <| some (([] : List Int) ++ p0)
noncomputable def X_stack_Stack_int_Take_J2 (p1 : Int) (o0 : T_stack_Stack_int_) (y2 : Int) (x15 : (List Int)) : Option ((List Int) × Bool × T_stack_Stack_int_) :=
  grd ((0 : Int) ≤ (w64 (y2 - p1)) ∧ ((w64 (y2 - p1)) : Int) ≤ ((o0.l).length : Int) ∧ (w64 (y2 - p1)) = (w64 (y2 - p1))) <| some (x15, true, (⟨(lCut o0.l 0 (w64 (y2 - p1))), o0.most⟩ : T_stack_Stack_int_))
noncomputable def X_stack_Stack_int_Take_J1 (p1 : Int) (o0 : T_stack_Stack_int_) (y2 : Int) (x8 : Bool) : Option ((List Int) × Bool × T_stack_Stack_int_) :=
  cond x8 (some (([] : List Int), false, o0)) (cond (decide ((w64 (y2 - p1)) < ((o0.l).length : Int))) (grd ((0 : Int) ≤ (w64 (y2 - p1)) ∧ ((w64 (y2 - p1)) : Int) < ((o0.l).length : Int) ∧ ((o0.l).length : Int) ≤ ((o0.l).length : Int)) <| (X_slices_Clone_int_int (lCut o0.l (w64 (y2 - p1)) ((o0.l).length : Int))).bind fun y20 => X_stack_Stack_int_Take_J2 p1 o0 y2 y20) (grd ((0 : Int) ≤ (w64 (y2 - p1)) ∧ ((w64 (y2 - p1)) : Int) = ((o0.l).length : Int) ∧ ((o0.l).length : Int) ≤ ((o0.l).length : Int)) <| (X_slices_Clone_int_int ([] : List Int)).bind fun y22 => X_stack_Stack_int_Take_J2 p1 o0 y2 y22))
noncomputable def X_stack_Stack_int_Take (p1 : Int) (o0 : T_stack_Stack_int_) : Option ((List Int) × Bool × T_stack_Stack_int_) :=
  (X_stack_Stack_int_Len o0).bind fun y2 => cond (decide (p1 < 0)) (X_stack_Stack_int_Take_J1 p1 o0 y2 true) (X_stack_Stack_int_Take_J1 p1 o0 y2 (decide ((w64 (y2 - p1)) < 0)))
noncomputable def X_arith_bit (p0 : Bool) : Option (Int) :=
  cond p0 (some 1) (some 0)
noncomputable def X_arith_compared_J1 (x20 : Int) (x21 : Int) (x22 : Int) (x23 : Int) (x24 : Int) (x25 : Int) (x26 : Int) (x27 : Int) (x28 : Int) : Option (Int × Int × Int × Int × Int × Int × Int × Int × Int) :=
  some (x20, x21, x22, x23, x24, x25, x26, x27, x28)
noncomputable def X_arith_compared (p0 : Int) (p1 : Int) : Option (Int × Int × Int × Int × Int × Int × Int × Int × Int) :=
  (X_arith_bit (p0 == p1)).bind fun y29 => (X_arith_bit (p0 != p1)).bind fun y30 => (X_arith_bit (decide (p0 < p1))).bind fun y31 => (X_arith_bit (decide (p0 ≤ p1))).bind fun y32 => (X_arith_bit (decide (p1 < p0))).bind fun y33 => (X_arith_bit (decide (p1 ≤ p0))).bind fun y34 => cond (p0 != 0) ((X_arith_bit (p1 != 0)).bind fun y36 => cond (p0 != 0) ((X_arith_bit true).bind fun y38 => (X_arith_bit (p0 == 0)).bind fun y39 => X_arith_compared_J1 y29 y30 y31 y32 y33 y34 y36 y38 y39) ((X_arith_bit (p1 != 0)).bind fun y40 => (X_arith_bit (p0 == 0)).bind fun y41 => X_arith_compared_J1 y29 y30 y31 y32 y33 y34 y36 y40 y41)) ((X_arith_bit false).bind fun y42 => cond (p0 != 0) ((X_arith_bit true).bind fun y44 => (X_arith_bit (p0 == 0)).bind fun y45 => X_arith_compared_J1 y29 y30 y31 y32 y33 y34 y42 y44 y45) ((X_arith_bit (p1 != 0)).bind fun y46 => (X_arith_bit (p0 == 0)).bind fun y47 => X_arith_compared_J1 y29 y30 y31 y32 y33 y34 y42 y46 y47))
noncomputable def X_arith_Apply_J1 (p0 : Int) (p1 : Int) (p2 : Int) (x24 : Bool) : Option (Int × Int) :=
  cond x24 (cond (p2 == 0) (some (0, 1)) (cond (p0 == 8) (grd (p2 ≠ 0) <| some ((w64 (Int.tdiv p1 p2)), 0)) (grd (p2 ≠ 0) <| some ((Int.tmod p1 p2), 0)))) ((X_arith_compared p1 p2).bind fun y37 => some ((cond (p0 == 10) y37.1 (cond (p0 == 11) y37.2.1 (cond (p0 == 12) y37.2.2.1 (cond (p0 == 13) y37.2.2.2.1 (cond (p0 == 14) y37.2.2.2.2.1 (cond (p0 == 15) y37.2.2.2.2.2.1 (cond (p0 == 16) y37.2.2.2.2.2.2.1 (cond (p0 == 17) y37.2.2.2.2.2.2.2.1 (cond (p0 == 4) y37.2.2.2.2.2.2.2.2 0))))))))), 0))
noncomputable def X_arith_Apply (p0 : Int) (p1 : Int) (p2 : Int) : Option (Int × Int) :=
  cond (p0 == 3) (some ((w64 (0 - p1)), 0)) (cond (p0 == 5) (some ((w64 (p1 + p2)), 0)) (cond (p0 == 6) (some ((w64 (p1 - p2)), 0)) (cond (p0 == 7) (some ((w64 (p1 * p2)), 0)) (cond (p0 == 8) (X_arith_Apply_J1 p0 p1 p2 (p0 == 8)) (X_arith_Apply_J1 p0 p1 p2 (p0 == 9))))))
noncomputable def X_run_runner_reckon (p1 : Int) (o0_0 : (List T_api_Ins)) (o0_1 : (List T_api_Def)) (o0_2 : (List T_api_Chan)) (o0_3 : Int) (o0_4 : Int) (o0_5 : Int) (o0_6 : Int) (o0_8 : Int) (o0_9 : Int) (o0_10 : Int) (o0_11 : Int) (o0_12 : Int) (o0_13 : Int) (o0_14 : Int) (o0_15 : (List T_api_Alt)) (o0_17 : Int) (o0_18 : Int) (o0_19 : Int) (o0_20 : Int) (o0_21 : Int) (o0_22 : Int) (o0_23 : Int) (o0_24 : Int) (o0_27 : Int) (o0_28 : Bool) (o2 : T_stack_Stack_int_) (o1 : (List Int)) (o4 : (List Int)) (o5 : (List T_api_Alt)) : Option ((List T_api_Ins) × (List T_api_Def) × (List T_api_Chan) × Int × Int × Int × Int × Int × Int × Int × Int × Int × Int × Int × (List T_api_Alt) × Int × Int × Int × Int × Int × Int × Int × Int × Int × Bool × T_stack_Stack_int_ × (List Int) × (List T_api_Alt)) :=
  (X_arith_Wide p1).bind fun y3 => (X_stack_Stack_int_Take y3 o2).bind fun y4 => grd (((y4.1).length + ([0, 0]).length) * 8 ≤ 140737488355328) <| (lAt (y4.1 ++ [0, 0]) 0).bind fun y10 => (lAt (y4.1 ++ [0, 0]) 1).bind fun y11 => (X_arith_Apply p1 y10 y11).bind fun y12 => cond (y12.2 != 0) ((X_run_runner_fault y12.2 o0_0 o0_1 o0_2 o0_3 o0_4 o0_5 o0_6 o0_8 o0_9 o0_10 o0_11 o0_12 o0_13 o0_14 o0_15 o0_17 o0_18 o0_19 o0_20 o0_21 o0_22 o0_23 o0_24 o0_27 o0_28 y4.2.2 o1 o4 o5).bind fun y18 => some (y18.1, y18.2.1, y18.2.2.1, y18.2.2.2.1, y18.2.2.2.2.1, y18.2.2.2.2.2.1, y18.2.2.2.2.2.2.1, y18.2.2.2.2.2.2.2.1, y18.2.2.2.2.2.2.2.2.1, y18.2.2.2.2.2.2.2.2.2.1, y18.2.2.2.2.2.2.2.2.2.2.1, y18.2.2.2.2.2.2.2.2.2.2.2.1, y18.2.2.2.2.2.2.2.2.2.2.2.2.1, y18.2.2.2.2.2.2.2.2.2.2.2.2.2.1, y18.2.2.2.2.2.2.2.2.2.2.2.2.2.2.1, y18.2.2.2.2.2.2.2.2.2.2.2.2.2.2.2.1, y18.2.2.2.2.2.2.2.2.2.2.2.2.2.2.2.2.1, y18.2.2.2.2.2.2.2.2.2.2.2.2.2.2.2.2.2.1, y18.2.2.2.2.2.2.2.2.2.2.2.2.2.2.2.2.2.2.1, y18.2.2.2.2.2.2.2.2.2.2.2.2.2.2.2.2.2.2.2.1, y18.2.2.2.2.2.2.2.2.2.2.2.2.2.2.2.2.2.2.2.2.1, y18.2.2.2.2.2.2.2.2.2.2.2.2.2.2.2.2.2.2.2.2.2.1, y18.2.2.2.2.2.2.2.2.2.2.2.2.2.2.2.2.2.2.2.2.2.2.1, y18.2.2.2.2.2.2.2.2.2.2.2.2.2.2.2.2.2.2.2.2.2.2.2.1, y18.2.2.2.2.2.2.2.2.2.2.2.2.2.2.2.2.2.2.2.2.2.2.2.2.1, y4.2.2, y18.2.2.2.2.2.2.2.2.2.2.2.2.2.2.2.2.2.2.2.2.2.2.2.2.2.1, y18.2.2.2.2.2.2.2.2.2.2.2.2.2.2.2.2.2.2.2.2.2.2.2.2.2.2)) ((X_run_runner_lay o0_0 o0_1 o0_2 o0_3 o0_4 o0_5 o0_6 o0_8 o0_9 o0_10 o0_11 o0_12 o0_13 o0_14 o0_15 o0_17 o0_18 o0_19 o0_20 o0_21 o0_22 o0_23 o0_24 o0_27 o0_28 y4.2.2 o1 o4 o5 ([y12.1])).bind fun y19 => some (y19.1, y19.2.1, y19.2.2.1, y19.2.2.2.1, y19.2.2.2.2.1, y19.2.2.2.2.2.1, y19.2.2.2.2.2.2.1, y19.2.2.2.2.2.2.2.1, y19.2.2.2.2.2.2.2.2.1, y19.2.2.2.2.2.2.2.2.2.1, y19.2.2.2.2.2.2.2.2.2.2.1, y19.2.2.2.2.2.2.2.2.2.2.2.1, y19.2.2.2.2.2.2.2.2.2.2.2.2.1, y19.2.2.2.2.2.2.2.2.2.2.2.2.2.1, y19.2.2.2.2.2.2.2.2.2.2.2.2.2.2.1, y19.2.2.2.2.2.2.2.2.2.2.2.2.2.2.2.1, y19.2.2.2.2.2.2.2.2.2.2.2.2.2.2.2.2.1, y19.2.2.2.2.2.2.2.2.2.2.2.2.2.2.2.2.2.1, y19.2.2.2.2.2.2.2.2.2.2.2.2.2.2.2.2.2.2.1, y19.2.2.2.2.2.2.2.2.2.2.2.2.2.2.2.2.2.2.2.1, y19.2.2.2.2.2.2.2.2.2.2.2.2.2.2.2.2.2.2.2.2.1, y19.2.2.2.2.2.2.2.2.2.2.2.2.2.2.2.2.2.2.2.2.2.1, y19.2.2.2.2.2.2.2.2.2.2.2.2.2.2.2.2.2.2.2.2.2.2.1, y19.2.2.2.2.2.2.2.2.2.2.2.2.2.2.2.2.2.2.2.2.2.2.2.1, y19.2.2.2.2.2.2.2.2.2.2.2.2.2.2.2.2.2.2.2.2.2.2.2.2.1, y19.2.2.2.2.2.2.2.2.2.2.2.2.2.2.2.2.2.2.2.2.2.2.2.2.2.1, y19.2.2.2.2.2.2.2.2.2.2.2.2.2.2.2.2.2.2.2.2.2.2.2.2.2.2.1, y19.2.2.2.2.2.2.2.2.2.2.2.2.2.2.2.2.2.2.2.2.2.2.2.2.2.2.2))
noncomputable def X_run_runner_jump (p1 : Int) (p2 : Bool) (o0_0 : (List T_api_Ins)) (o0_1 : (List T_api_Def)) (o0_2 : (List T_api_Chan)) (o0_3 : Int) (o0_4 : Int) (o0_5 : Int) (o0_6 : Int) (o0_8 : Int) (o0_9 : Int) (o0_10 : Int) (o0_11 : Int) (o0_12 : Int) (o0_13 : Int) (o0_14 : Int) (o0_15 : (List T_api_Alt)) (o0_17 : Int) (o0_18 : Int) (o0_19 : Int) (o0_20 : Int) (o0_21 : Int) (o0_22 : Int) (o0_23 : Int) (o0_24 : Int) (o0_27 : Int) (o0_28 : Bool) (o2 : T_stack_Stack_int_) (o1 : (List Int)) (o4 : (List Int)) (o5 : (List T_api_Alt)) : Option ((List T_api_Ins) × (List T_api_Def) × (List T_api_Chan) × Int × Int × Int × Int × Int × Int × Int × Int × Int × Int × Int × (List T_api_Alt) × Int × Int × Int × Int × Int × Int × Int × Int × Int × Bool) :=
  cond p2 (some (o0_0, o0_1, o0_2, o0_3, o0_4, o0_5, o0_6, o0_8, o0_9, o0_10, o0_11, o0_12, o0_13, o0_14, o0_15, p1, o0_18, o0_19, o0_20, o0_21, o0_22, o0_23, o0_24, o0_27, o0_28)) (some (o0_0, o0_1, o0_2, o0_3, o0_4, o0_5, o0_6, o0_8, o0_9, o0_10, o0_11, o0_12, o0_13, o0_14, o0_15, o0_17, o0_18, o0_19, o0_20, o0_21, o0_22, o0_23, o0_24, o0_27, o0_28))
noncomputable def X_stack_Stack_int_Pop (o0 : T_stack_Stack_int_) : Option (Int × Bool × T_stack_Stack_int_) :=
  (X_stack_Stack_int_Take 1 o0).bind fun y2 => cond (!y2.2.1) (some (0, false, y2.2.2)) ((lAt y2.1 0).bind fun y6 => some (y6, true, y2.2.2))
noncomputable def X_run_runner_take (o0_0 : (List T_api_Ins)) (o0_1 : (List T_api_Def)) (o0_2 : (List T_api_Chan)) (o0_3 : Int) (o0_4 : Int) (o0_5 : Int) (o0_6 : Int) (o0_8 : Int) (o0_9 : Int) (o0_10 : Int) (o0_11 : Int) (o0_12 : Int) (o0_13 : Int) (o0_14 : Int) (o0_15 : (List T_api_Alt)) (o0_17 : Int) (o0_18 : Int) (o0_19 : Int) (o0_20 : Int) (o0_21 : Int) (o0_22 : Int) (o0_23 : Int) (o0_24 : Int) (o0_27 : Int) (o0_28 : Bool) (o2 : T_stack_Stack_int_) (o1 : (List Int)) (o4 : (List Int)) (o5 : (List T_api_Alt)) : Option (Int × T_stack_Stack_int_) :=
  (X_stack_Stack_int_Pop o2).bind fun y2 => some (y2.1, y2.2.2)
noncomputable def X_run_runner_channel_J1 (p1 : T_api_Ins) (o0_0 : (List T_api_Ins)) (o0_1 : (List T_api_Def)) (o0_2 : (List T_api_Chan)) (o0_3 : Int) (o0_4 : Int) (o0_5 : Int) (o0_6 : Int) (o0_8 : Int) (o0_9 : Int) (o0_10 : Int) (o0_11 : Int) (o0_12 : Int) (o0_13 : Int) (o0_14 : Int) (o0_15 : (List T_api_Alt)) (o0_17 : Int) (o0_18 : Int) (o0_19 : Int) (o0_20 : Int) (o0_21 : Int) (o0_22 : Int) (o0_23 : Int) (o0_24 : Int) (o0_27 : Int) (o0_28 : Bool) (o1 : (List Int)) (o4 : (List Int)) (o5 : (List T_api_Alt)) (y8 : Int × T_stack_Stack_int_) (x16 : Bool) : Option ((List T_api_Ins) × (List T_api_Def) × (List T_api_Chan) × Int × Int × Int × Int × Int × Int × Int × Int × Int × Int × Int × (List T_api_Alt) × Int × Int × Int × Int × Int × Int × Int × Int × Int × Bool × T_stack_Stack_int_ × (List Int) × (List T_api_Alt)) :=
  cond x16 ((X_run_runner_fault 4 o0_0 o0_1 o0_2 o0_3 o0_4 o0_5 o0_6 o0_8 o0_9 o0_10 o0_11 o0_12 o0_13 o0_14 o0_15 o0_17 o0_18 o0_19 o0_20 o0_21 o0_22 o0_23 o0_24 o0_27 o0_28 y8.2 o1 o4 o5).bind fun y19 => some (y19.1, y19.2.1, y19.2.2.1, y19.2.2.2.1, y19.2.2.2.2.1, y19.2.2.2.2.2.1, y19.2.2.2.2.2.2.1, y19.2.2.2.2.2.2.2.1, y19.2.2.2.2.2.2.2.2.1, y19.2.2.2.2.2.2.2.2.2.1, y19.2.2.2.2.2.2.2.2.2.2.1, y19.2.2.2.2.2.2.2.2.2.2.2.1, y19.2.2.2.2.2.2.2.2.2.2.2.2.1, y19.2.2.2.2.2.2.2.2.2.2.2.2.2.1, y19.2.2.2.2.2.2.2.2.2.2.2.2.2.2.1, y19.2.2.2.2.2.2.2.2.2.2.2.2.2.2.2.1, y19.2.2.2.2.2.2.2.2.2.2.2.2.2.2.2.2.1, y19.2.2.2.2.2.2.2.2.2.2.2.2.2.2.2.2.2.1, y19.2.2.2.2.2.2.2.2.2.2.2.2.2.2.2.2.2.2.1, y19.2.2.2.2.2.2.2.2.2.2.2.2.2.2.2.2.2.2.2.1, y19.2.2.2.2.2.2.2.2.2.2.2.2.2.2.2.2.2.2.2.2.1, y19.2.2.2.2.2.2.2.2.2.2.2.2.2.2.2.2.2.2.2.2.2.1, y19.2.2.2.2.2.2.2.2.2.2.2.2.2.2.2.2.2.2.2.2.2.2.1, y19.2.2.2.2.2.2.2.2.2.2.2.2.2.2.2.2.2.2.2.2.2.2.2.1, y19.2.2.2.2.2.2.2.2.2.2.2.2.2.2.2.2.2.2.2.2.2.2.2.2.1, y8.2, y19.2.2.2.2.2.2.2.2.2.2.2.2.2.2.2.2.2.2.2.2.2.2.2.2.2.1, y19.2.2.2.2.2.2.2.2.2.2.2.2.2.2.2.2.2.2.2.2.2.2.2.2.2.2)) ((X_run_runner_lay o0_0 o0_1 o0_2 o0_3 o0_4 o0_5 o0_6 o0_8 o0_9 o0_10 o0_11 o0_12 o0_13 o0_14 o0_15 o0_17 o0_18 o0_19 o0_20 o0_21 o0_22 o0_23 o0_24 o0_27 o0_28 y8.2 o1 o4 o5 ([(w64 (p1.A + y8.1))])).bind fun y20 => some (y20.1, y20.2.1, y20.2.2.1, y20.2.2.2.1, y20.2.2.2.2.1, y20.2.2.2.2.2.1, y20.2.2.2.2.2.2.1, y20.2.2.2.2.2.2.2.1, y20.2.2.2.2.2.2.2.2.1, y20.2.2.2.2.2.2.2.2.2.1, y20.2.2.2.2.2.2.2.2.2.2.1, y20.2.2.2.2.2.2.2.2.2.2.2.1, y20.2.2.2.2.2.2.2.2.2.2.2.2.1, y20.2.2.2.2.2.2.2.2.2.2.2.2.2.1, y20.2.2.2.2.2.2.2.2.2.2.2.2.2.2.1, y20.2.2.2.2.2.2.2.2.2.2.2.2.2.2.2.1, y20.2.2.2.2.2.2.2.2.2.2.2.2.2.2.2.2.1, y20.2.2.2.2.2.2.2.2.2.2.2.2.2.2.2.2.2.1, y20.2.2.2.2.2.2.2.2.2.2.2.2.2.2.2.2.2.2.1, y20.2.2.2.2.2.2.2.2.2.2.2.2.2.2.2.2.2.2.2.1, y20.2.2.2.2.2.2.2.2.2.2.2.2.2.2.2.2.2.2.2.2.1, y20.2.2.2.2.2.2.2.2.2.2.2.2.2.2.2.2.2.2.2.2.2.1, y20.2.2.2.2.2.2.2.2.2.2.2.2.2.2.2.2.2.2.2.2.2.2.1, y20.2.2.2.2.2.2.2.2.2.2.2.2.2.2.2.2.2.2.2.2.2.2.2.1, y20.2.2.2.2.2.2.2.2.2.2.2.2.2.2.2.2.2.2.2.2.2.2.2.2.1, y20.2.2.2.2.2.2.2.2.2.2.2.2.2.2.2.2.2.2.2.2.2.2.2.2.2.1, y20.2.2.2.2.2.2.2.2.2.2.2.2.2.2.2.2.2.2.2.2.2.2.2.2.2.2.1, y20.2.2.2.2.2.2.2.2.2.2.2.2.2.2.2.2.2.2.2.2.2.2.2.2.2.2.2))
noncomputable def X_run_runner_channel (p1 : T_api_Ins) (o0_0 : (List T_api_Ins)) (o0_1 : (List T_api_Def)) (o0_2 : (List T_api_Chan)) (o0_3 : Int) (o0_4 : Int) (o0_5 : Int) (o0_6 : Int) (o0_8 : Int) (o0_9 : Int) (o0_10 : Int) (o0_11 : Int) (o0_12 : Int) (o0_13 : Int) (o0_14 : Int) (o0_15 : (List T_api_Alt)) (o0_17 : Int) (o0_18 : Int) (o0_19 : Int) (o0_20 : Int) (o0_21 : Int) (o0_22 : Int) (o0_23 : Int) (o0_24 : Int) (o0_27 : Int) (o0_28 : Bool) (o2 : T_stack_Stack_int_) (o1 : (List Int)) (o4 : (List Int)) (o5 : (List T_api_Alt)) : Option ((List T_api_Ins) × (List T_api_Def) × (List T_api_Chan) × Int × Int × Int × Int × Int × Int × Int × Int × Int × Int × Int × (List T_api_Alt) × Int × Int × Int × Int × Int × Int × Int × Int × Int × Bool × T_stack_Stack_int_ × (List Int) × (List T_api_Alt)) :=
  cond (p1.B == 0) ((X_run_runner_lay o0_0 o0_1 o0_2 o0_3 o0_4 o0_5 o0_6 o0_8 o0_9 o0_10 o0_11 o0_12 o0_13 o0_14 o0_15 o0_17 o0_18 o0_19 o0_20 o0_21 o0_22 o0_23 o0_24 o0_27 o0_28 o2 o1 o4 o5 ([p1.A])).bind fun y6 => some (y6.1, y6.2.1, y6.2.2.1, y6.2.2.2.1, y6.2.2.2.2.1, y6.2.2.2.2.2.1, y6.2.2.2.2.2.2.1, y6.2.2.2.2.2.2.2.1, y6.2.2.2.2.2.2.2.2.1, y6.2.2.2.2.2.2.2.2.2.1, y6.2.2.2.2.2.2.2.2.2.2.1, y6.2.2.2.2.2.2.2.2.2.2.2.1, y6.2.2.2.2.2.2.2.2.2.2.2.2.1, y6.2.2.2.2.2.2.2.2.2.2.2.2.2.1, y6.2.2.2.2.2.2.2.2.2.2.2.2.2.2.1, y6.2.2.2.2.2.2.2.2.2.2.2.2.2.2.2.1, y6.2.2.2.2.2.2.2.2.2.2.2.2.2.2.2.2.1, y6.2.2.2.2.2.2.2.2.2.2.2.2.2.2.2.2.2.1, y6.2.2.2.2.2.2.2.2.2.2.2.2.2.2.2.2.2.2.1, y6.2.2.2.2.2.2.2.2.2.2.2.2.2.2.2.2.2.2.2.1, y6.2.2.2.2.2.2.2.2.2.2.2.2.2.2.2.2.2.2.2.2.1, y6.2.2.2.2.2.2.2.2.2.2.2.2.2.2.2.2.2.2.2.2.2.1, y6.2.2.2.2.2.2.2.2.2.2.2.2.2.2.2.2.2.2.2.2.2.2.1, y6.2.2.2.2.2.2.2.2.2.2.2.2.2.2.2.2.2.2.2.2.2.2.2.1, y6.2.2.2.2.2.2.2.2.2.2.2.2.2.2.2.2.2.2.2.2.2.2.2.2.1, y6.2.2.2.2.2.2.2.2.2.2.2.2.2.2.2.2.2.2.2.2.2.2.2.2.2.1, y6.2.2.2.2.2.2.2.2.2.2.2.2.2.2.2.2.2.2.2.2.2.2.2.2.2.2.1, y6.2.2.2.2.2.2.2.2.2.2.2.2.2.2.2.2.2.2.2.2.2.2.2.2.2.2.2)) ((X_run_runner_take o0_0 o0_1 o0_2 o0_3 o0_4 o0_5 o0_6 o0_8 o0_9 o0_10 o0_11 o0_12 o0_13 o0_14 o0_15 o0_17 o0_18 o0_19 o0_20 o0_21 o0_22 o0_23 o0_24 o0_27 o0_28 o2 o1 o4 o5).bind fun y8 => cond (decide (y8.1 < 0)) (X_run_runner_channel_J1 p1 o0_0 o0_1 o0_2 o0_3 o0_4 o0_5 o0_6 o0_8 o0_9 o0_10 o0_11 o0_12 o0_13 o0_14 o0_15 o0_17 o0_18 o0_19 o0_20 o0_21 o0_22 o0_23 o0_24 o0_27 o0_28 o1 o4 o5 y8 true) (X_run_runner_channel_J1 p1 o0_0 o0_1 o0_2 o0_3 o0_4 o0_5 o0_6 o0_8 o0_9 o0_10 o0_11 o0_12 o0_13 o0_14 o0_15 o0_17 o0_18 o0_19 o0_20 o0_21 o0_22 o0_23 o0_24 o0_27 o0_28 o1 o4 o5 y8 (decide (p1.B ≤ y8.1))))
noncomputable def X_proc_Chans_L1 (p0 : T_api_Code) (x13 : Int) (x14 : Int) : Option ((Int × Int) ⊕ (Int)) :=
  cond (decide (x14 < ((p0.Chans).length : Int))) ((lAt p0.Chans x14).bind fun y22 => some (.inl ((w64 (x13 + (if 1 > y22.Size then 1 else y22.Size))), (w64 (x14 + 1))))) ((some x13).map Sum.inr)
noncomputable def X_proc_Chans (p0 : T_api_Code) : Option (Int) :=
  Loopx (fun s : (Int × Int) => X_proc_Chans_L1 p0 s.1 s.2) (0, 0)
noncomputable def X_run_runner_none_J1 (o0_0 : (List T_api_Ins)) (o0_1 : (List T_api_Def)) (o0_2 : (List T_api_Chan)) (o0_3 : Int) (o0_4 : Int) (o0_5 : Int) (o0_6 : Int) (o0_8 : Int) (o0_9 : Int) (o0_10 : Int) (o0_11 : Int) (o0_12 : Int) (o0_13 : Int) (o0_14 : Int) (o0_15 : (List T_api_Alt)) (o0_17 : Int) (o0_18 : Int) (o0_19 : Int) (o0_20 : Int) (o0_21 : Int) (o0_22 : Int) (o0_23 : Int) (o0_24 : Int) (o0_27 : Int) (o0_28 : Bool) (o2 : T_stack_Stack_int_) (o1 : (List Int)) (o4 : (List Int)) (o5 : (List T_api_Alt)) (x9 : Bool) : Option (Bool × (List T_api_Ins) × (List T_api_Def) × (List T_api_Chan) × Int × Int × Int × Int × Int × Int × Int × Int × Int × Int × Int × (List T_api_Alt) × Int × Int × Int × Int × Int × Int × Int × Int × Int × Bool × (List Int) × (List T_api_Alt)) :=
  cond x9 (some (false, o0_0, o0_1, o0_2, o0_3, o0_4, o0_5, o0_6, o0_8, o0_9, o0_10, o0_11, o0_12, o0_13, o0_14, o0_15, o0_17, o0_18, o0_19, o0_20, o0_21, o0_22, o0_23, o0_24, o0_27, o0_28, o4, o5)) ((X_run_runner_fault 4 o0_0 o0_1 o0_2 o0_3 o0_4 o0_5 o0_6 o0_8 o0_9 o0_10 o0_11 o0_12 o0_13 o0_14 o0_15 o0_17 o0_18 o0_19 o0_20 o0_21 o0_22 o0_23 o0_24 o0_27 o0_28 o2 o1 o4 o5).bind fun y12 => some (true, y12.1, y12.2.1, y12.2.2.1, y12.2.2.2.1, y12.2.2.2.2.1, y12.2.2.2.2.2.1, y12.2.2.2.2.2.2.1, y12.2.2.2.2.2.2.2.1, y12.2.2.2.2.2.2.2.2.1, y12.2.2.2.2.2.2.2.2.2.1, y12.2.2.2.2.2.2.2.2.2.2.1, y12.2.2.2.2.2.2.2.2.2.2.2.1, y12.2.2.2.2.2.2.2.2.2.2.2.2.1, y12.2.2.2.2.2.2.2.2.2.2.2.2.2.1, y12.2.2.2.2.2.2.2.2.2.2.2.2.2.2.1, y12.2.2.2.2.2.2.2.2.2.2.2.2.2.2.2.1, y12.2.2.2.2.2.2.2.2.2.2.2.2.2.2.2.2.1, y12.2.2.2.2.2.2.2.2.2.2.2.2.2.2.2.2.2.1, y12.2.2.2.2.2.2.2.2.2.2.2.2.2.2.2.2.2.2.1, y12.2.2.2.2.2.2.2.2.2.2.2.2.2.2.2.2.2.2.2.1, y12.2.2.2.2.2.2.2.2.2.2.2.2.2.2.2.2.2.2.2.2.1, y12.2.2.2.2.2.2.2.2.2.2.2.2.2.2.2.2.2.2.2.2.2.1, y12.2.2.2.2.2.2.2.2.2.2.2.2.2.2.2.2.2.2.2.2.2.2.1, y12.2.2.2.2.2.2.2.2.2.2.2.2.2.2.2.2.2.2.2.2.2.2.2.1, y12.2.2.2.2.2.2.2.2.2.2.2.2.2.2.2.2.2.2.2.2.2.2.2.2.1, y12.2.2.2.2.2.2.2.2.2.2.2.2.2.2.2.2.2.2.2.2.2.2.2.2.2.1, y12.2.2.2.2.2.2.2.2.2.2.2.2.2.2.2.2.2.2.2.2.2.2.2.2.2.2))
noncomputable def X_run_runner_none (p1 : Int) (o0_0 : (List T_api_Ins)) (o0_1 : (List T_api_Def)) (o0_2 : (List T_api_Chan)) (o0_3 : Int) (o0_4 : Int) (o0_5 : Int) (o0_6 : Int) (o0_8 : Int) (o0_9 : Int) (o0_10 : Int) (o0_11 : Int) (o0_12 : Int) (o0_13 : Int) (o0_14 : Int) (o0_15 : (List T_api_Alt)) (o0_17 : Int) (o0_18 : Int) (o0_19 : Int) (o0_20 : Int) (o0_21 : Int) (o0_22 : Int) (o0_23 : Int) (o0_24 : Int) (o0_27 : Int) (o0_28 : Bool) (o2 : T_stack_Stack_int_) (o1 : (List Int)) (o4 : (List Int)) (o5 : (List T_api_Alt)) : Option (Bool × (List T_api_Ins) × (List T_api_Def) × (List T_api_Chan) × Int × Int × Int × Int × Int × Int × Int × Int × Int × Int × Int × (List T_api_Alt) × Int × Int × Int × Int × Int × Int × Int × Int × Int × Bool × (List Int) × (List T_api_Alt)) :=
  cond (decide (0 ≤ p1)) ((X_proc_Chans (⟨o0_0, o0_1, o0_2, o0_3, o0_4⟩ : T_api_Code)).bind fun y14 => X_run_runner_none_J1 o0_0 o0_1 o0_2 o0_3 o0_4 o0_5 o0_6 o0_8 o0_9 o0_10 o0_11 o0_12 o0_13 o0_14 o0_15 o0_17 o0_18 o0_19 o0_20 o0_21 o0_22 o0_23 o0_24 o0_27 o0_28 o2 o1 o4 o5 (decide (p1 < y14))) (X_run_runner_none_J1 o0_0 o0_1 o0_2 o0_3 o0_4 o0_5 o0_6 o0_8 o0_9 o0_10 o0_11 o0_12 o0_13 o0_14 o0_15 o0_17 o0_18 o0_19 o0_20 o0_21 o0_22 o0_23 o0_24 o0_27 o0_28 o2 o1 o4 o5 false)
noncomputable def X_code_Settle_J1 (p0 : T_api_Code) (x45 : Int) (x46 : Int) (x79 : Bool) : Option ((Int × Int) ⊕ (Int)) :=
  cond x79 ((some x45).map Sum.inr) ((lAt p0.Ins x45).bind fun y83 => some (.inl (y83.A, (w64 (x46 + 1)))))
noncomputable def X_code_Settle_L2 (p0 : T_api_Code) (p1 : Int) (x45 : Int) (x46 : Int) : Option ((Int × Int) ⊕ (Int)) :=
  cond (decide (x46 < (w64 (((p0.Ins).length : Int) + 1)))) (cond (decide (x45 < 0)) (X_code_Settle_J1 p0 x45 x46 true) (cond (decide (((p0.Ins).length : Int) ≤ x45)) (X_code_Settle_J1 p0 x45 x46 true) ((lAt p0.Ins x45).bind fun y86 => X_code_Settle_J1 p0 x45 x46 (y86.Op != 6)))) ((some p1).map Sum.inr)
noncomputable def X_code_Settle (p0 : T_api_Code) (p1 : Int) : Option (Int) :=
  Loopx (fun s : (Int × Int) => X_code_Settle_L2 p0 p1 s.1 s.2) (p1, 0)
noncomputable def X_run_runner_alt_J1 (p1 : T_api_Alt) (p2 : Int) (x42 : Bool) (x43 : (List T_api_Ins)) (x44 : (List T_api_Def)) (x45 : (List T_api_Chan)) (x46 : Int) (x47 : Int) (x48 : Int) (x49 : Int) (x50 : Int) (x51 : Int) (x52 : Int) (x53 : Int) (x54 : Int) (x55 : Int) (x56 : Int) (x57 : (List T_api_Alt)) (x58 : Int) (x59 : Int) (x60 : Int) (x61 : Int) (x62 : Int) (x63 : Int) (x64 : Int) (x65 : Int) (x66 : Int) (x67 : Bool) (x68 : (List Int)) (x69 : (List T_api_Alt)) : Option ((List T_api_Ins) × (List T_api_Def) × (List T_api_Chan) × Int × Int × Int × Int × Int × Int × Int × Int × Int × Int × Int × (List T_api_Alt) × Int × Int × Int × Int × Int × Int × Int × Int × Int × Bool × (List Int) × (List T_api_Alt)) :=
  cond x42 (some (x43, x44, x45, x46, x47, x48, x49, x50, x51, x52, x53, x54, x55, x56, x57, x58, x59, x60, x61, x62, x63, x64, x65, x66, x67, x68, x69)) ((X_code_Settle (⟨x43, x44, x45, x46, x47⟩ : T_api_Code) p2).bind fun y72 => grd (((x69).length + ([(⟨p1.Kind, p1.Chan, p1.Val, p1.Slot, y72⟩ : T_api_Alt)]).length) * 40 ≤ 140737488355328) <| some (x43, x44, x45, x46, x47, x48, x49, x50, x51, x52, x53, x54, x55, x56, x57, x58, x59, x60, x61, x62, x63, x64, x65, x66, x67, x68, (x69 ++ [(⟨p1.Kind, p1.Chan, p1.Val, p1.Slot, y72⟩ : T_api_Alt)])))
noncomputable def X_run_runner_alt (p1 : T_api_Alt) (p2 : Int) (o0_0 : (List T_api_Ins)) (o0_1 : (List T_api_Def)) (o0_2 : (List T_api_Chan)) (o0_3 : Int) (o0_4 : Int) (o0_5 : Int) (o0_6 : Int) (o0_8 : Int) (o0_9 : Int) (o0_10 : Int) (o0_11 : Int) (o0_12 : Int) (o0_13 : Int) (o0_14 : Int) (o0_15 : (List T_api_Alt)) (o0_17 : Int) (o0_18 : Int) (o0_19 : Int) (o0_20 : Int) (o0_21 : Int) (o0_22 : Int) (o0_23 : Int) (o0_24 : Int) (o0_27 : Int) (o0_28 : Bool) (o2 : T_stack_Stack_int_) (o1 : (List Int)) (o4 : (List Int)) (o5 : (List T_api_Alt)) : Option ((List T_api_Ins) × (List T_api_Def) × (List T_api_Chan) × Int × Int × Int × Int × Int × Int × Int × Int × Int × Int × Int × (List T_api_Alt) × Int × Int × Int × Int × Int × Int × Int × Int × Int × Bool × (List Int) × (List T_api_Alt)) :=
  cond (p1.Kind == 1) ((X_run_runner_none p1.Chan o0_0 o0_1 o0_2 o0_3 o0_4 o0_5 o0_6 o0_8 o0_9 o0_10 o0_11 o0_12 o0_13 o0_14 o0_15 o0_17 o0_18 o0_19 o0_20 o0_21 o0_22 o0_23 o0_24 o0_27 o0_28 o2 o1 o4 o5).bind fun y75 => X_run_runner_alt_J1 p1 p2 y75.1 y75.2.1 y75.2.2.1 y75.2.2.2.1 y75.2.2.2.2.1 y75.2.2.2.2.2.1 y75.2.2.2.2.2.2.1 y75.2.2.2.2.2.2.2.1 y75.2.2.2.2.2.2.2.2.1 y75.2.2.2.2.2.2.2.2.2.1 y75.2.2.2.2.2.2.2.2.2.2.1 y75.2.2.2.2.2.2.2.2.2.2.2.1 y75.2.2.2.2.2.2.2.2.2.2.2.2.1 y75.2.2.2.2.2.2.2.2.2.2.2.2.2.1 y75.2.2.2.2.2.2.2.2.2.2.2.2.2.2.1 y75.2.2.2.2.2.2.2.2.2.2.2.2.2.2.2.1 y75.2.2.2.2.2.2.2.2.2.2.2.2.2.2.2.2.1 y75.2.2.2.2.2.2.2.2.2.2.2.2.2.2.2.2.2.1 y75.2.2.2.2.2.2.2.2.2.2.2.2.2.2.2.2.2.2.1 y75.2.2.2.2.2.2.2.2.2.2.2.2.2.2.2.2.2.2.2.1 y75.2.2.2.2.2.2.2.2.2.2.2.2.2.2.2.2.2.2.2.2.1 y75.2.2.2.2.2.2.2.2.2.2.2.2.2.2.2.2.2.2.2.2.2.1 y75.2.2.2.2.2.2.2.2.2.2.2.2.2.2.2.2.2.2.2.2.2.2.1 y75.2.2.2.2.2.2.2.2.2.2.2.2.2.2.2.2.2.2.2.2.2.2.2.1 y75.2.2.2.2.2.2.2.2.2.2.2.2.2.2.2.2.2.2.2.2.2.2.2.2.1 y75.2.2.2.2.2.2.2.2.2.2.2.2.2.2.2.2.2.2.2.2.2.2.2.2.2.1 y75.2.2.2.2.2.2.2.2.2.2.2.2.2.2.2.2.2.2.2.2.2.2.2.2.2.2.1 y75.2.2.2.2.2.2.2.2.2.2.2.2.2.2.2.2.2.2.2.2.2.2.2.2.2.2.2) (cond (p1.Kind == 2) ((X_run_runner_none p1.Chan o0_0 o0_1 o0_2 o0_3 o0_4 o0_5 o0_6 o0_8 o0_9 o0_10 o0_11 o0_12 o0_13 o0_14 o0_15 o0_17 o0_18 o0_19 o0_20 o0_21 o0_22 o0_23 o0_24 o0_27 o0_28 o2 o1 o4 o5).bind fun y77 => X_run_runner_alt_J1 p1 p2 y77.1 y77.2.1 y77.2.2.1 y77.2.2.2.1 y77.2.2.2.2.1 y77.2.2.2.2.2.1 y77.2.2.2.2.2.2.1 y77.2.2.2.2.2.2.2.1 y77.2.2.2.2.2.2.2.2.1 y77.2.2.2.2.2.2.2.2.2.1 y77.2.2.2.2.2.2.2.2.2.2.1 y77.2.2.2.2.2.2.2.2.2.2.2.1 y77.2.2.2.2.2.2.2.2.2.2.2.2.1 y77.2.2.2.2.2.2.2.2.2.2.2.2.2.1 y77.2.2.2.2.2.2.2.2.2.2.2.2.2.2.1 y77.2.2.2.2.2.2.2.2.2.2.2.2.2.2.2.1 y77.2.2.2.2.2.2.2.2.2.2.2.2.2.2.2.2.1 y77.2.2.2.2.2.2.2.2.2.2.2.2.2.2.2.2.2.1 y77.2.2.2.2.2.2.2.2.2.2.2.2.2.2.2.2.2.2.1 y77.2.2.2.2.2.2.2.2.2.2.2.2.2.2.2.2.2.2.2.1 y77.2.2.2.2.2.2.2.2.2.2.2.2.2.2.2.2.2.2.2.2.1 y77.2.2.2.2.2.2.2.2.2.2.2.2.2.2.2.2.2.2.2.2.2.1 y77.2.2.2.2.2.2.2.2.2.2.2.2.2.2.2.2.2.2.2.2.2.2.1 y77.2.2.2.2.2.2.2.2.2.2.2.2.2.2.2.2.2.2.2.2.2.2.2.1 y77.2.2.2.2.2.2.2.2.2.2.2.2.2.2.2.2.2.2.2.2.2.2.2.2.1 y77.2.2.2.2.2.2.2.2.2.2.2.2.2.2.2.2.2.2.2.2.2.2.2.2.2.1 y77.2.2.2.2.2.2.2.2.2.2.2.2.2.2.2.2.2.2.2.2.2.2.2.2.2.2.1 y77.2.2.2.2.2.2.2.2.2.2.2.2.2.2.2.2.2.2.2.2.2.2.2.2.2.2.2) (X_run_runner_alt_J1 p1 p2 false o0_0 o0_1 o0_2 o0_3 o0_4 o0_5 o0_6 o0_8 o0_9 o0_10 o0_11 o0_12 o0_13 o0_14 o0_15 o0_17 o0_18 o0_19 o0_20 o0_21 o0_22 o0_23 o0_24 o0_27 o0_28 o4 o5))
noncomputable def X_run_runner_reckons_J1 (x32 : (List T_api_Ins)) (x33 : (List T_api_Def)) (x34 : (List T_api_Chan)) (x35 : Int) (x36 : Int) (x37 : Int) (x38 : Int) (x39 : Int) (x40 : Int) (x41 : Int) (x42 : Int) (x43 : Int) (x44 : Int) (x45 : Int) (x46 : (List T_api_Alt)) (x47 : Int) (x48 : Int) (x49 : Int) (x50 : Int) (x51 : Int) (x52 : Int) (x53 : Int) (x54 : Int) (x55 : Int) (x56 : Bool) (x57 : Int) (x58 : (List Int)) (x59 : (List Int)) (x60 : (List T_api_Alt)) : Option (Bool × (List T_api_Ins) × (List T_api_Def) × (List T_api_Chan) × Int × Int × Int × Int × Int × Int × Int × Int × Int × Int × Int × (List T_api_Alt) × Int × Int × Int × Int × Int × Int × Int × Int × Int × Bool × T_stack_Stack_int_ × (List Int) × (List T_api_Alt)) :=
  some (true, x32, x33, x34, x35, x36, x37, x38, x39, x40, x41, x42, x43, x44, x45, x46, x47, x48, x49, x50, x51, x52, x53, x54, x55, x56, (⟨x58, x57⟩ : T_stack_Stack_int_), x59, x60)
noncomputable def X_run_runner_reckons (p1 : T_api_Ins) (o0_0 : (List T_api_Ins)) (o0_1 : (List T_api_Def)) (o0_2 : (List T_api_Chan)) (o0_3 : Int) (o0_4 : Int) (o0_5 : Int) (o0_6 : Int) (o0_8 : Int) (o0_9 : Int) (o0_10 : Int) (o0_11 : Int) (o0_12 : Int) (o0_13 : Int) (o0_14 : Int) (o0_15 : (List T_api_Alt)) (o0_17 : Int) (o0_18 : Int) (o0_19 : Int) (o0_20 : Int) (o0_21 : Int) (o0_22 : Int) (o0_23 : Int) (o0_24 : Int) (o0_27 : Int) (o0_28 : Bool) (o2 : T_stack_Stack_int_) (o1 : (List Int)) (o4 : (List Int)) (o5 : (List T_api_Alt)) : Option (Bool × (List T_api_Ins) × (List T_api_Def) × (List T_api_Chan) × Int × Int × Int × Int × Int × Int × Int × Int × Int × Int × Int × (List T_api_Alt) × Int × Int × Int × Int × Int × Int × Int × Int × Int × Bool × T_stack_Stack_int_ × (List Int) × (List T_api_Alt)) :=
  cond (p1.Op == 2) ((X_run_runner_lay o0_0 o0_1 o0_2 o0_3 o0_4 o0_5 o0_6 o0_8 o0_9 o0_10 o0_11 o0_12 o0_13 o0_14 o0_15 o0_17 o0_18 o0_19 o0_20 o0_21 o0_22 o0_23 o0_24 o0_27 o0_28 o2 o1 o4 o5 ([p1.A])).bind fun y62 => X_run_runner_reckons_J1 y62.1 y62.2.1 y62.2.2.1 y62.2.2.2.1 y62.2.2.2.2.1 y62.2.2.2.2.2.1 y62.2.2.2.2.2.2.1 y62.2.2.2.2.2.2.2.1 y62.2.2.2.2.2.2.2.2.1 y62.2.2.2.2.2.2.2.2.2.1 y62.2.2.2.2.2.2.2.2.2.2.1 y62.2.2.2.2.2.2.2.2.2.2.2.1 y62.2.2.2.2.2.2.2.2.2.2.2.2.1 y62.2.2.2.2.2.2.2.2.2.2.2.2.2.1 y62.2.2.2.2.2.2.2.2.2.2.2.2.2.2.1 y62.2.2.2.2.2.2.2.2.2.2.2.2.2.2.2.1 y62.2.2.2.2.2.2.2.2.2.2.2.2.2.2.2.2.1 y62.2.2.2.2.2.2.2.2.2.2.2.2.2.2.2.2.2.1 y62.2.2.2.2.2.2.2.2.2.2.2.2.2.2.2.2.2.2.1 y62.2.2.2.2.2.2.2.2.2.2.2.2.2.2.2.2.2.2.2.1 y62.2.2.2.2.2.2.2.2.2.2.2.2.2.2.2.2.2.2.2.2.1 y62.2.2.2.2.2.2.2.2.2.2.2.2.2.2.2.2.2.2.2.2.2.1 y62.2.2.2.2.2.2.2.2.2.2.2.2.2.2.2.2.2.2.2.2.2.2.1 y62.2.2.2.2.2.2.2.2.2.2.2.2.2.2.2.2.2.2.2.2.2.2.2.1 y62.2.2.2.2.2.2.2.2.2.2.2.2.2.2.2.2.2.2.2.2.2.2.2.2.1 y62.2.2.2.2.2.2.2.2.2.2.2.2.2.2.2.2.2.2.2.2.2.2.2.2.2.1.most y62.2.2.2.2.2.2.2.2.2.2.2.2.2.2.2.2.2.2.2.2.2.2.2.2.2.1.l y62.2.2.2.2.2.2.2.2.2.2.2.2.2.2.2.2.2.2.2.2.2.2.2.2.2.2.1 y62.2.2.2.2.2.2.2.2.2.2.2.2.2.2.2.2.2.2.2.2.2.2.2.2.2.2.2) (cond (p1.Op == 3) ((X_run_runner_slot p1.A o0_0 o0_1 o0_2 o0_3 o0_4 o0_5 o0_6 o0_8 o0_9 o0_10 o0_11 o0_12 o0_13 o0_14 o0_15 o0_17 o0_18 o0_19 o0_20 o0_21 o0_22 o0_23 o0_24 o0_27 o0_28 o2 o1 o4 o5).bind fun y64 => (X_run_runner_lay o0_0 o0_1 o0_2 o0_3 o0_4 o0_5 o0_6 o0_8 o0_9 o0_10 o0_11 o0_12 o0_13 o0_14 o0_15 o0_17 o0_18 o0_19 o0_20 o0_21 o0_22 o0_23 o0_24 o0_27 o0_28 o2 o1 o4 o5 ([y64])).bind fun y65 => X_run_runner_reckons_J1 y65.1 y65.2.1 y65.2.2.1 y65.2.2.2.1 y65.2.2.2.2.1 y65.2.2.2.2.2.1 y65.2.2.2.2.2.2.1 y65.2.2.2.2.2.2.2.1 y65.2.2.2.2.2.2.2.2.1 y65.2.2.2.2.2.2.2.2.2.1 y65.2.2.2.2.2.2.2.2.2.2.1 y65.2.2.2.2.2.2.2.2.2.2.2.1 y65.2.2.2.2.2.2.2.2.2.2.2.2.1 y65.2.2.2.2.2.2.2.2.2.2.2.2.2.1 y65.2.2.2.2.2.2.2.2.2.2.2.2.2.2.1 y65.2.2.2.2.2.2.2.2.2.2.2.2.2.2.2.1 y65.2.2.2.2.2.2.2.2.2.2.2.2.2.2.2.2.1 y65.2.2.2.2.2.2.2.2.2.2.2.2.2.2.2.2.2.1 y65.2.2.2.2.2.2.2.2.2.2.2.2.2.2.2.2.2.2.1 y65.2.2.2.2.2.2.2.2.2.2.2.2.2.2.2.2.2.2.2.1 y65.2.2.2.2.2.2.2.2.2.2.2.2.2.2.2.2.2.2.2.2.1 y65.2.2.2.2.2.2.2.2.2.2.2.2.2.2.2.2.2.2.2.2.2.1 y65.2.2.2.2.2.2.2.2.2.2.2.2.2.2.2.2.2.2.2.2.2.2.1 y65.2.2.2.2.2.2.2.2.2.2.2.2.2.2.2.2.2.2.2.2.2.2.2.1 y65.2.2.2.2.2.2.2.2.2.2.2.2.2.2.2.2.2.2.2.2.2.2.2.2.1 y65.2.2.2.2.2.2.2.2.2.2.2.2.2.2.2.2.2.2.2.2.2.2.2.2.2.1.most y65.2.2.2.2.2.2.2.2.2.2.2.2.2.2.2.2.2.2.2.2.2.2.2.2.2.1.l y65.2.2.2.2.2.2.2.2.2.2.2.2.2.2.2.2.2.2.2.2.2.2.2.2.2.2.1 y65.2.2.2.2.2.2.2.2.2.2.2.2.2.2.2.2.2.2.2.2.2.2.2.2.2.2.2) (cond (p1.Op == 5) ((X_run_runner_reckon p1.A o0_0 o0_1 o0_2 o0_3 o0_4 o0_5 o0_6 o0_8 o0_9 o0_10 o0_11 o0_12 o0_13 o0_14 o0_15 o0_17 o0_18 o0_19 o0_20 o0_21 o0_22 o0_23 o0_24 o0_27 o0_28 o2 o1 o4 o5).bind fun y67 => X_run_runner_reckons_J1 y67.1 y67.2.1 y67.2.2.1 y67.2.2.2.1 y67.2.2.2.2.1 y67.2.2.2.2.2.1 y67.2.2.2.2.2.2.1 y67.2.2.2.2.2.2.2.1 y67.2.2.2.2.2.2.2.2.1 y67.2.2.2.2.2.2.2.2.2.1 y67.2.2.2.2.2.2.2.2.2.2.1 y67.2.2.2.2.2.2.2.2.2.2.2.1 y67.2.2.2.2.2.2.2.2.2.2.2.2.1 y67.2.2.2.2.2.2.2.2.2.2.2.2.2.1 y67.2.2.2.2.2.2.2.2.2.2.2.2.2.2.1 y67.2.2.2.2.2.2.2.2.2.2.2.2.2.2.2.1 y67.2.2.2.2.2.2.2.2.2.2.2.2.2.2.2.2.1 y67.2.2.2.2.2.2.2.2.2.2.2.2.2.2.2.2.2.1 y67.2.2.2.2.2.2.2.2.2.2.2.2.2.2.2.2.2.2.1 y67.2.2.2.2.2.2.2.2.2.2.2.2.2.2.2.2.2.2.2.1 y67.2.2.2.2.2.2.2.2.2.2.2.2.2.2.2.2.2.2.2.2.1 y67.2.2.2.2.2.2.2.2.2.2.2.2.2.2.2.2.2.2.2.2.2.1 y67.2.2.2.2.2.2.2.2.2.2.2.2.2.2.2.2.2.2.2.2.2.2.1 y67.2.2.2.2.2.2.2.2.2.2.2.2.2.2.2.2.2.2.2.2.2.2.2.1 y67.2.2.2.2.2.2.2.2.2.2.2.2.2.2.2.2.2.2.2.2.2.2.2.2.1 y67.2.2.2.2.2.2.2.2.2.2.2.2.2.2.2.2.2.2.2.2.2.2.2.2.2.1.most y67.2.2.2.2.2.2.2.2.2.2.2.2.2.2.2.2.2.2.2.2.2.2.2.2.2.1.l y67.2.2.2.2.2.2.2.2.2.2.2.2.2.2.2.2.2.2.2.2.2.2.2.2.2.2.1 y67.2.2.2.2.2.2.2.2.2.2.2.2.2.2.2.2.2.2.2.2.2.2.2.2.2.2.2) (cond (p1.Op == 6) ((X_run_runner_jump p1.A true o0_0 o0_1 o0_2 o0_3 o0_4 o0_5 o0_6 o0_8 o0_9 o0_10 o0_11 o0_12 o0_13 o0_14 o0_15 o0_17 o0_18 o0_19 o0_20 o0_21 o0_22 o0_23 o0_24 o0_27 o0_28 o2 o1 o4 o5).bind fun y69 => X_run_runner_reckons_J1 y69.1 y69.2.1 y69.2.2.1 y69.2.2.2.1 y69.2.2.2.2.1 y69.2.2.2.2.2.1 y69.2.2.2.2.2.2.1 y69.2.2.2.2.2.2.2.1 y69.2.2.2.2.2.2.2.2.1 y69.2.2.2.2.2.2.2.2.2.1 y69.2.2.2.2.2.2.2.2.2.2.1 y69.2.2.2.2.2.2.2.2.2.2.2.1 y69.2.2.2.2.2.2.2.2.2.2.2.2.1 y69.2.2.2.2.2.2.2.2.2.2.2.2.2.1 y69.2.2.2.2.2.2.2.2.2.2.2.2.2.2.1 y69.2.2.2.2.2.2.2.2.2.2.2.2.2.2.2.1 y69.2.2.2.2.2.2.2.2.2.2.2.2.2.2.2.2.1 y69.2.2.2.2.2.2.2.2.2.2.2.2.2.2.2.2.2.1 y69.2.2.2.2.2.2.2.2.2.2.2.2.2.2.2.2.2.2.1 y69.2.2.2.2.2.2.2.2.2.2.2.2.2.2.2.2.2.2.2.1 y69.2.2.2.2.2.2.2.2.2.2.2.2.2.2.2.2.2.2.2.2.1 y69.2.2.2.2.2.2.2.2.2.2.2.2.2.2.2.2.2.2.2.2.2.1 y69.2.2.2.2.2.2.2.2.2.2.2.2.2.2.2.2.2.2.2.2.2.2.1 y69.2.2.2.2.2.2.2.2.2.2.2.2.2.2.2.2.2.2.2.2.2.2.2.1 y69.2.2.2.2.2.2.2.2.2.2.2.2.2.2.2.2.2.2.2.2.2.2.2.2 o2.most o2.l o4 o5) (cond (p1.Op == 7) ((X_run_runner_take o0_0 o0_1 o0_2 o0_3 o0_4 o0_5 o0_6 o0_8 o0_9 o0_10 o0_11 o0_12 o0_13 o0_14 o0_15 o0_17 o0_18 o0_19 o0_20 o0_21 o0_22 o0_23 o0_24 o0_27 o0_28 o2 o1 o4 o5).bind fun y71 => (X_run_runner_jump p1.A (y71.1 == 0) o0_0 o0_1 o0_2 o0_3 o0_4 o0_5 o0_6 o0_8 o0_9 o0_10 o0_11 o0_12 o0_13 o0_14 o0_15 o0_17 o0_18 o0_19 o0_20 o0_21 o0_22 o0_23 o0_24 o0_27 o0_28 y71.2 o1 o4 o5).bind fun y72 => X_run_runner_reckons_J1 y72.1 y72.2.1 y72.2.2.1 y72.2.2.2.1 y72.2.2.2.2.1 y72.2.2.2.2.2.1 y72.2.2.2.2.2.2.1 y72.2.2.2.2.2.2.2.1 y72.2.2.2.2.2.2.2.2.1 y72.2.2.2.2.2.2.2.2.2.1 y72.2.2.2.2.2.2.2.2.2.2.1 y72.2.2.2.2.2.2.2.2.2.2.2.1 y72.2.2.2.2.2.2.2.2.2.2.2.2.1 y72.2.2.2.2.2.2.2.2.2.2.2.2.2.1 y72.2.2.2.2.2.2.2.2.2.2.2.2.2.2.1 y72.2.2.2.2.2.2.2.2.2.2.2.2.2.2.2.1 y72.2.2.2.2.2.2.2.2.2.2.2.2.2.2.2.2.1 y72.2.2.2.2.2.2.2.2.2.2.2.2.2.2.2.2.2.1 y72.2.2.2.2.2.2.2.2.2.2.2.2.2.2.2.2.2.2.1 y72.2.2.2.2.2.2.2.2.2.2.2.2.2.2.2.2.2.2.2.1 y72.2.2.2.2.2.2.2.2.2.2.2.2.2.2.2.2.2.2.2.2.1 y72.2.2.2.2.2.2.2.2.2.2.2.2.2.2.2.2.2.2.2.2.2.1 y72.2.2.2.2.2.2.2.2.2.2.2.2.2.2.2.2.2.2.2.2.2.2.1 y72.2.2.2.2.2.2.2.2.2.2.2.2.2.2.2.2.2.2.2.2.2.2.2.1 y72.2.2.2.2.2.2.2.2.2.2.2.2.2.2.2.2.2.2.2.2.2.2.2.2 y71.2.most y71.2.l o4 o5) (cond (p1.Op == 8) ((X_run_runner_take o0_0 o0_1 o0_2 o0_3 o0_4 o0_5 o0_6 o0_8 o0_9 o0_10 o0_11 o0_12 o0_13 o0_14 o0_15 o0_17 o0_18 o0_19 o0_20 o0_21 o0_22 o0_23 o0_24 o0_27 o0_28 o2 o1 o4 o5).bind fun y74 => (X_run_runner_jump p1.A (y74.1 != 0) o0_0 o0_1 o0_2 o0_3 o0_4 o0_5 o0_6 o0_8 o0_9 o0_10 o0_11 o0_12 o0_13 o0_14 o0_15 o0_17 o0_18 o0_19 o0_20 o0_21 o0_22 o0_23 o0_24 o0_27 o0_28 y74.2 o1 o4 o5).bind fun y75 => X_run_runner_reckons_J1 y75.1 y75.2.1 y75.2.2.1 y75.2.2.2.1 y75.2.2.2.2.1 y75.2.2.2.2.2.1 y75.2.2.2.2.2.2.1 y75.2.2.2.2.2.2.2.1 y75.2.2.2.2.2.2.2.2.1 y75.2.2.2.2.2.2.2.2.2.1 y75.2.2.2.2.2.2.2.2.2.2.1 y75.2.2.2.2.2.2.2.2.2.2.2.1 y75.2.2.2.2.2.2.2.2.2.2.2.2.1 y75.2.2.2.2.2.2.2.2.2.2.2.2.2.1 y75.2.2.2.2.2.2.2.2.2.2.2.2.2.2.1 y75.2.2.2.2.2.2.2.2.2.2.2.2.2.2.2.1 y75.2.2.2.2.2.2.2.2.2.2.2.2.2.2.2.2.1 y75.2.2.2.2.2.2.2.2.2.2.2.2.2.2.2.2.2.1 y75.2.2.2.2.2.2.2.2.2.2.2.2.2.2.2.2.2.2.1 y75.2.2.2.2.2.2.2.2.2.2.2.2.2.2.2.2.2.2.2.1 y75.2.2.2.2.2.2.2.2.2.2.2.2.2.2.2.2.2.2.2.2.1 y75.2.2.2.2.2.2.2.2.2.2.2.2.2.2.2.2.2.2.2.2.2.1 y75.2.2.2.2.2.2.2.2.2.2.2.2.2.2.2.2.2.2.2.2.2.2.1 y75.2.2.2.2.2.2.2.2.2.2.2.2.2.2.2.2.2.2.2.2.2.2.2.1 y75.2.2.2.2.2.2.2.2.2.2.2.2.2.2.2.2.2.2.2.2.2.2.2.2 y74.2.most y74.2.l o4 o5) (cond (p1.Op == 9) ((X_run_runner_channel p1 o0_0 o0_1 o0_2 o0_3 o0_4 o0_5 o0_6 o0_8 o0_9 o0_10 o0_11 o0_12 o0_13 o0_14 o0_15 o0_17 o0_18 o0_19 o0_20 o0_21 o0_22 o0_23 o0_24 o0_27 o0_28 o2 o1 o4 o5).bind fun y77 => X_run_runner_reckons_J1 y77.1 y77.2.1 y77.2.2.1 y77.2.2.2.1 y77.2.2.2.2.1 y77.2.2.2.2.2.1 y77.2.2.2.2.2.2.1 y77.2.2.2.2.2.2.2.1 y77.2.2.2.2.2.2.2.2.1 y77.2.2.2.2.2.2.2.2.2.1 y77.2.2.2.2.2.2.2.2.2.2.1 y77.2.2.2.2.2.2.2.2.2.2.2.1 y77.2.2.2.2.2.2.2.2.2.2.2.2.1 y77.2.2.2.2.2.2.2.2.2.2.2.2.2.1 y77.2.2.2.2.2.2.2.2.2.2.2.2.2.2.1 y77.2.2.2.2.2.2.2.2.2.2.2.2.2.2.2.1 y77.2.2.2.2.2.2.2.2.2.2.2.2.2.2.2.2.1 y77.2.2.2.2.2.2.2.2.2.2.2.2.2.2.2.2.2.1 y77.2.2.2.2.2.2.2.2.2.2.2.2.2.2.2.2.2.2.1 y77.2.2.2.2.2.2.2.2.2.2.2.2.2.2.2.2.2.2.2.1 y77.2.2.2.2.2.2.2.2.2.2.2.2.2.2.2.2.2.2.2.2.1 y77.2.2.2.2.2.2.2.2.2.2.2.2.2.2.2.2.2.2.2.2.2.1 y77.2.2.2.2.2.2.2.2.2.2.2.2.2.2.2.2.2.2.2.2.2.2.1 y77.2.2.2.2.2.2.2.2.2.2.2.2.2.2.2.2.2.2.2.2.2.2.2.1 y77.2.2.2.2.2.2.2.2.2.2.2.2.2.2.2.2.2.2.2.2.2.2.2.2.1 y77.2.2.2.2.2.2.2.2.2.2.2.2.2.2.2.2.2.2.2.2.2.2.2.2.2.1.most y77.2.2.2.2.2.2.2.2.2.2.2.2.2.2.2.2.2.2.2.2.2.2.2.2.2.1.l y77.2.2.2.2.2.2.2.2.2.2.2.2.2.2.2.2.2.2.2.2.2.2.2.2.2.2.1 y77.2.2.2.2.2.2.2.2.2.2.2.2.2.2.2.2.2.2.2.2.2.2.2.2.2.2.2) (cond (p1.Op == 25) (X_run_runner_reckons_J1 o0_0 o0_1 o0_2 o0_3 o0_4 o0_5 o0_6 o0_8 o0_9 o0_10 o0_11 o0_12 o0_13 o0_14 o0_15 o0_17 o0_18 o0_19 o0_20 o0_21 o0_22 o0_23 o0_24 o0_27 o0_28 o2.most o2.l o4 o5) (cond (p1.Op == 19) ((X_run_runner_take o0_0 o0_1 o0_2 o0_3 o0_4 o0_5 o0_6 o0_8 o0_9 o0_10 o0_11 o0_12 o0_13 o0_14 o0_15 o0_17 o0_18 o0_19 o0_20 o0_21 o0_22 o0_23 o0_24 o0_27 o0_28 o2 o1 o4 o5).bind fun y80 => (X_run_runner_alt (⟨1, y80.1, 0, p1.A, 0⟩ : T_api_Alt) p1.B o0_0 o0_1 o0_2 o0_3 o0_4 o0_5 o0_6 o0_8 o0_9 o0_10 o0_11 o0_12 o0_13 o0_14 o0_15 o0_17 o0_18 o0_19 o0_20 o0_21 o0_22 o0_23 o0_24 o0_27 o0_28 y80.2 o1 o4 o5).bind fun y81 => X_run_runner_reckons_J1 y81.1 y81.2.1 y81.2.2.1 y81.2.2.2.1 y81.2.2.2.2.1 y81.2.2.2.2.2.1 y81.2.2.2.2.2.2.1 y81.2.2.2.2.2.2.2.1 y81.2.2.2.2.2.2.2.2.1 y81.2.2.2.2.2.2.2.2.2.1 y81.2.2.2.2.2.2.2.2.2.2.1 y81.2.2.2.2.2.2.2.2.2.2.2.1 y81.2.2.2.2.2.2.2.2.2.2.2.2.1 y81.2.2.2.2.2.2.2.2.2.2.2.2.2.1 y81.2.2.2.2.2.2.2.2.2.2.2.2.2.2.1 y81.2.2.2.2.2.2.2.2.2.2.2.2.2.2.2.1 y81.2.2.2.2.2.2.2.2.2.2.2.2.2.2.2.2.1 y81.2.2.2.2.2.2.2.2.2.2.2.2.2.2.2.2.2.1 y81.2.2.2.2.2.2.2.2.2.2.2.2.2.2.2.2.2.2.1 y81.2.2.2.2.2.2.2.2.2.2.2.2.2.2.2.2.2.2.2.1 y81.2.2.2.2.2.2.2.2.2.2.2.2.2.2.2.2.2.2.2.2.1 y81.2.2.2.2.2.2.2.2.2.2.2.2.2.2.2.2.2.2.2.2.2.1 y81.2.2.2.2.2.2.2.2.2.2.2.2.2.2.2.2.2.2.2.2.2.2.1 y81.2.2.2.2.2.2.2.2.2.2.2.2.2.2.2.2.2.2.2.2.2.2.2.1 y81.2.2.2.2.2.2.2.2.2.2.2.2.2.2.2.2.2.2.2.2.2.2.2.2.1 y80.2.most y80.2.l y81.2.2.2.2.2.2.2.2.2.2.2.2.2.2.2.2.2.2.2.2.2.2.2.2.2.1 y81.2.2.2.2.2.2.2.2.2.2.2.2.2.2.2.2.2.2.2.2.2.2.2.2.2.2) (cond (p1.Op == 20) ((X_run_runner_take o0_0 o0_1 o0_2 o0_3 o0_4 o0_5 o0_6 o0_8 o0_9 o0_10 o0_11 o0_12 o0_13 o0_14 o0_15 o0_17 o0_18 o0_19 o0_20 o0_21 o0_22 o0_23 o0_24 o0_27 o0_28 o2 o1 o4 o5).bind fun y84 => (X_run_runner_take o0_0 o0_1 o0_2 o0_3 o0_4 o0_5 o0_6 o0_8 o0_9 o0_10 o0_11 o0_12 o0_13 o0_14 o0_15 o0_17 o0_18 o0_19 o0_20 o0_21 o0_22 o0_23 o0_24 o0_27 o0_28 y84.2 o1 o4 o5).bind fun y85 => (X_run_runner_alt (⟨2, y85.1, y84.1, 0, 0⟩ : T_api_Alt) p1.A o0_0 o0_1 o0_2 o0_3 o0_4 o0_5 o0_6 o0_8 o0_9 o0_10 o0_11 o0_12 o0_13 o0_14 o0_15 o0_17 o0_18 o0_19 o0_20 o0_21 o0_22 o0_23 o0_24 o0_27 o0_28 y85.2 o1 o4 o5).bind fun y86 => X_run_runner_reckons_J1 y86.1 y86.2.1 y86.2.2.1 y86.2.2.2.1 y86.2.2.2.2.1 y86.2.2.2.2.2.1 y86.2.2.2.2.2.2.1 y86.2.2.2.2.2.2.2.1 y86.2.2.2.2.2.2.2.2.1 y86.2.2.2.2.2.2.2.2.2.1 y86.2.2.2.2.2.2.2.2.2.2.1 y86.2.2.2.2.2.2.2.2.2.2.2.1 y86.2.2.2.2.2.2.2.2.2.2.2.2.1 y86.2.2.2.2.2.2.2.2.2.2.2.2.2.1 y86.2.2.2.2.2.2.2.2.2.2.2.2.2.2.1 y86.2.2.2.2.2.2.2.2.2.2.2.2.2.2.2.1 y86.2.2.2.2.2.2.2.2.2.2.2.2.2.2.2.2.1 y86.2.2.2.2.2.2.2.2.2.2.2.2.2.2.2.2.2.1 y86.2.2.2.2.2.2.2.2.2.2.2.2.2.2.2.2.2.2.1 y86.2.2.2.2.2.2.2.2.2.2.2.2.2.2.2.2.2.2.2.1 y86.2.2.2.2.2.2.2.2.2.2.2.2.2.2.2.2.2.2.2.2.1 y86.2.2.2.2.2.2.2.2.2.2.2.2.2.2.2.2.2.2.2.2.2.1 y86.2.2.2.2.2.2.2.2.2.2.2.2.2.2.2.2.2.2.2.2.2.2.1 y86.2.2.2.2.2.2.2.2.2.2.2.2.2.2.2.2.2.2.2.2.2.2.2.1 y86.2.2.2.2.2.2.2.2.2.2.2.2.2.2.2.2.2.2.2.2.2.2.2.2.1 y85.2.most y85.2.l y86.2.2.2.2.2.2.2.2.2.2.2.2.2.2.2.2.2.2.2.2.2.2.2.2.2.1 y86.2.2.2.2.2.2.2.2.2.2.2.2.2.2.2.2.2.2.2.2.2.2.2.2.2.2) (cond (p1.Op == 21) ((X_run_runner_take o0_0 o0_1 o0_2 o0_3 o0_4 o0_5 o0_6 o0_8 o0_9 o0_10 o0_11 o0_12 o0_13 o0_14 o0_15 o0_17 o0_18 o0_19 o0_20 o0_21 o0_22 o0_23 o0_24 o0_27 o0_28 o2 o1 o4 o5).bind fun y88 => (X_run_runner_alt (⟨3, 0, y88.1, 0, 0⟩ : T_api_Alt) p1.A o0_0 o0_1 o0_2 o0_3 o0_4 o0_5 o0_6 o0_8 o0_9 o0_10 o0_11 o0_12 o0_13 o0_14 o0_15 o0_17 o0_18 o0_19 o0_20 o0_21 o0_22 o0_23 o0_24 o0_27 o0_28 y88.2 o1 o4 o5).bind fun y89 => X_run_runner_reckons_J1 y89.1 y89.2.1 y89.2.2.1 y89.2.2.2.1 y89.2.2.2.2.1 y89.2.2.2.2.2.1 y89.2.2.2.2.2.2.1 y89.2.2.2.2.2.2.2.1 y89.2.2.2.2.2.2.2.2.1 y89.2.2.2.2.2.2.2.2.2.1 y89.2.2.2.2.2.2.2.2.2.2.1 y89.2.2.2.2.2.2.2.2.2.2.2.1 y89.2.2.2.2.2.2.2.2.2.2.2.2.1 y89.2.2.2.2.2.2.2.2.2.2.2.2.2.1 y89.2.2.2.2.2.2.2.2.2.2.2.2.2.2.1 y89.2.2.2.2.2.2.2.2.2.2.2.2.2.2.2.1 y89.2.2.2.2.2.2.2.2.2.2.2.2.2.2.2.2.1 y89.2.2.2.2.2.2.2.2.2.2.2.2.2.2.2.2.2.1 y89.2.2.2.2.2.2.2.2.2.2.2.2.2.2.2.2.2.2.1 y89.2.2.2.2.2.2.2.2.2.2.2.2.2.2.2.2.2.2.2.1 y89.2.2.2.2.2.2.2.2.2.2.2.2.2.2.2.2.2.2.2.2.1 y89.2.2.2.2.2.2.2.2.2.2.2.2.2.2.2.2.2.2.2.2.2.1 y89.2.2.2.2.2.2.2.2.2.2.2.2.2.2.2.2.2.2.2.2.2.2.1 y89.2.2.2.2.2.2.2.2.2.2.2.2.2.2.2.2.2.2.2.2.2.2.2.1 y89.2.2.2.2.2.2.2.2.2.2.2.2.2.2.2.2.2.2.2.2.2.2.2.2.1 y88.2.most y88.2.l y89.2.2.2.2.2.2.2.2.2.2.2.2.2.2.2.2.2.2.2.2.2.2.2.2.2.1 y89.2.2.2.2.2.2.2.2.2.2.2.2.2.2.2.2.2.2.2.2.2.2.2.2.2.2) (cond (p1.Op == 22) ((X_run_runner_alt (⟨4, 0, 0, 0, 0⟩ : T_api_Alt) p1.A o0_0 o0_1 o0_2 o0_3 o0_4 o0_5 o0_6 o0_8 o0_9 o0_10 o0_11 o0_12 o0_13 o0_14 o0_15 o0_17 o0_18 o0_19 o0_20 o0_21 o0_22 o0_23 o0_24 o0_27 o0_28 o2 o1 o4 o5).bind fun y91 => X_run_runner_reckons_J1 y91.1 y91.2.1 y91.2.2.1 y91.2.2.2.1 y91.2.2.2.2.1 y91.2.2.2.2.2.1 y91.2.2.2.2.2.2.1 y91.2.2.2.2.2.2.2.1 y91.2.2.2.2.2.2.2.2.1 y91.2.2.2.2.2.2.2.2.2.1 y91.2.2.2.2.2.2.2.2.2.2.1 y91.2.2.2.2.2.2.2.2.2.2.2.1 y91.2.2.2.2.2.2.2.2.2.2.2.2.1 y91.2.2.2.2.2.2.2.2.2.2.2.2.2.1 y91.2.2.2.2.2.2.2.2.2.2.2.2.2.2.1 y91.2.2.2.2.2.2.2.2.2.2.2.2.2.2.2.1 y91.2.2.2.2.2.2.2.2.2.2.2.2.2.2.2.2.1 y91.2.2.2.2.2.2.2.2.2.2.2.2.2.2.2.2.2.1 y91.2.2.2.2.2.2.2.2.2.2.2.2.2.2.2.2.2.2.1 y91.2.2.2.2.2.2.2.2.2.2.2.2.2.2.2.2.2.2.2.1 y91.2.2.2.2.2.2.2.2.2.2.2.2.2.2.2.2.2.2.2.2.1 y91.2.2.2.2.2.2.2.2.2.2.2.2.2.2.2.2.2.2.2.2.2.1 y91.2.2.2.2.2.2.2.2.2.2.2.2.2.2.2.2.2.2.2.2.2.2.1 y91.2.2.2.2.2.2.2.2.2.2.2.2.2.2.2.2.2.2.2.2.2.2.2.1 y91.2.2.2.2.2.2.2.2.2.2.2.2.2.2.2.2.2.2.2.2.2.2.2.2.1 o2.most o2.l y91.2.2.2.2.2.2.2.2.2.2.2.2.2.2.2.2.2.2.2.2.2.2.2.2.2.1 y91.2.2.2.2.2.2.2.2.2.2.2.2.2.2.2.2.2.2.2.2.2.2.2.2.2.2) (some (false, o0_0, o0_1, o0_2, o0_3, o0_4, o0_5, o0_6, o0_8, o0_9, o0_10, o0_11, o0_12, o0_13, o0_14, o0_15, o0_17, o0_18, o0_19, o0_20, o0_21, o0_22, o0_23, o0_24, o0_27, o0_28, o2, o4, o5)))))))))))))
noncomputable def X_run_runner_ends_J3 (p1 : T_api_Ins) (o0_0 : (List T_api_Ins)) (o0_1 : (List T_api_Def)) (o0_2 : (List T_api_Chan)) (o0_3 : Int) (o0_4 : Int) (o0_5 : Int) (o0_6 : Int) (o0_8 : Int) (o0_9 : Int) (o0_10 : Int) (o0_11 : Int) (o0_12 : Int) (o0_13 : Int) (o0_14 : Int) (o0_15 : (List T_api_Alt)) (o0_17 : Int) (o0_18 : Int) (o0_19 : Int) (o0_20 : Int) (o0_21 : Int) (o0_24 : Int) (o0_27 : Int) (o0_28 : Bool) (o1 : (List Int)) (o4 : (List Int)) (y2 : Int) (y11 : Int × T_stack_Stack_int_) (x13 : Int) : Option (((List T_api_Ins) × (List T_api_Def) × (List T_api_Chan) × Int × Int × Int × Int × Int × Int × Int × Int × Int × Int × Int × (List T_api_Alt) × Int × Int × Int × Int × Int × Int × Int × Int × Int × Bool × T_stack_Stack_int_ × (List Int) × (List T_api_Alt)) ⊕ ((List T_api_Ins) × (List T_api_Def) × (List T_api_Chan) × Int × Int × Int × Int × Int × Int × Int × Int × Int × Int × Int × (List T_api_Alt) × Int × Int × Int × Int × Int × Int × Int × Int × Int × Bool × T_stack_Stack_int_ × (List T_api_Alt) × (List Int)) ⊕ ((List T_api_Ins) × (List T_api_Def) × (List T_api_Chan) × Int × Int × Int × Int × Int × Int × Int × Int × Int × Int × Int × (List T_api_Alt) × Int × Int × Int × Int × Int × Int × Int × Int × Int × Bool × (List T_api_Alt))) :=
  (X_run_runner_end x13 y2 o0_0 o0_1 o0_2 o0_3 o0_4 o0_5 o0_6 o0_8 o0_9 o0_10 o0_11 o0_12 o0_13 o0_14 o0_15 o0_17 o0_18 o0_19 o0_20 o0_21 y11.1 p1.A o0_24 o0_27 o0_28 y11.2 o1 o4 ([] : List T_api_Alt)).bind fun y14 => some (.inl (y14.1, y14.2.1, y14.2.2.1, y14.2.2.2.1, y14.2.2.2.2.1, y14.2.2.2.2.2.1, y14.2.2.2.2.2.2.1, y14.2.2.2.2.2.2.2.1, y14.2.2.2.2.2.2.2.2.1, y14.2.2.2.2.2.2.2.2.2.1, y14.2.2.2.2.2.2.2.2.2.2.1, y14.2.2.2.2.2.2.2.2.2.2.2.1, y14.2.2.2.2.2.2.2.2.2.2.2.2.1, y14.2.2.2.2.2.2.2.2.2.2.2.2.2.1, y14.2.2.2.2.2.2.2.2.2.2.2.2.2.2.1, y14.2.2.2.2.2.2.2.2.2.2.2.2.2.2.2.1, y14.2.2.2.2.2.2.2.2.2.2.2.2.2.2.2.2.1, y14.2.2.2.2.2.2.2.2.2.2.2.2.2.2.2.2.2.1, y14.2.2.2.2.2.2.2.2.2.2.2.2.2.2.2.2.2.2.1, y14.2.2.2.2.2.2.2.2.2.2.2.2.2.2.2.2.2.2.2.1, y14.2.2.2.2.2.2.2.2.2.2.2.2.2.2.2.2.2.2.2.2.1, y14.2.2.2.2.2.2.2.2.2.2.2.2.2.2.2.2.2.2.2.2.2.1, y14.2.2.2.2.2.2.2.2.2.2.2.2.2.2.2.2.2.2.2.2.2.2.1, y14.2.2.2.2.2.2.2.2.2.2.2.2.2.2.2.2.2.2.2.2.2.2.2.1, y14.2.2.2.2.2.2.2.2.2.2.2.2.2.2.2.2.2.2.2.2.2.2.2.2, y11.2, o4, ([] : List T_api_Alt)))
noncomputable def X_run_runner_ends_J5 (o0_0 : (List T_api_Ins)) (o0_1 : (List T_api_Def)) (o0_2 : (List T_api_Chan)) (o0_3 : Int) (o0_4 : Int) (o0_5 : Int) (o0_6 : Int) (o0_8 : Int) (o0_9 : Int) (o0_10 : Int) (o0_11 : Int) (o0_12 : Int) (o0_13 : Int) (o0_14 : Int) (o0_15 : (List T_api_Alt)) (o0_17 : Int) (o0_18 : Int) (o0_19 : Int) (o0_20 : Int) (o0_21 : Int) (o0_23 : Int) (o0_24 : Int) (o0_27 : Int) (o0_28 : Bool) (o1 : (List Int)) (o4 : (List Int)) (y2 : Int) (y36 : Int × T_stack_Stack_int_) (x38 : Int) : Option (((List T_api_Ins) × (List T_api_Def) × (List T_api_Chan) × Int × Int × Int × Int × Int × Int × Int × Int × Int × Int × Int × (List T_api_Alt) × Int × Int × Int × Int × Int × Int × Int × Int × Int × Bool × T_stack_Stack_int_ × (List Int) × (List T_api_Alt)) ⊕ ((List T_api_Ins) × (List T_api_Def) × (List T_api_Chan) × Int × Int × Int × Int × Int × Int × Int × Int × Int × Int × Int × (List T_api_Alt) × Int × Int × Int × Int × Int × Int × Int × Int × Int × Bool × T_stack_Stack_int_ × (List T_api_Alt) × (List Int)) ⊕ ((List T_api_Ins) × (List T_api_Def) × (List T_api_Chan) × Int × Int × Int × Int × Int × Int × Int × Int × Int × Int × Int × (List T_api_Alt) × Int × Int × Int × Int × Int × Int × Int × Int × Int × Bool × (List T_api_Alt))) :=
  (X_run_runner_end x38 y2 o0_0 o0_1 o0_2 o0_3 o0_4 o0_5 o0_6 o0_8 o0_9 o0_10 o0_11 o0_12 o0_13 o0_14 o0_15 o0_17 o0_18 o0_19 o0_20 o0_21 y36.1 o0_23 o0_24 o0_27 o0_28 y36.2 o1 o4 ([] : List T_api_Alt)).bind fun y39 => some (.inl (y39.1, y39.2.1, y39.2.2.1, y39.2.2.2.1, y39.2.2.2.2.1, y39.2.2.2.2.2.1, y39.2.2.2.2.2.2.1, y39.2.2.2.2.2.2.2.1, y39.2.2.2.2.2.2.2.2.1, y39.2.2.2.2.2.2.2.2.2.1, y39.2.2.2.2.2.2.2.2.2.2.1, y39.2.2.2.2.2.2.2.2.2.2.2.1, y39.2.2.2.2.2.2.2.2.2.2.2.2.1, y39.2.2.2.2.2.2.2.2.2.2.2.2.2.1, y39.2.2.2.2.2.2.2.2.2.2.2.2.2.2.1, y39.2.2.2.2.2.2.2.2.2.2.2.2.2.2.2.1, y39.2.2.2.2.2.2.2.2.2.2.2.2.2.2.2.2.1, y39.2.2.2.2.2.2.2.2.2.2.2.2.2.2.2.2.2.1, y39.2.2.2.2.2.2.2.2.2.2.2.2.2.2.2.2.2.2.1, y39.2.2.2.2.2.2.2.2.2.2.2.2.2.2.2.2.2.2.2.1, y39.2.2.2.2.2.2.2.2.2.2.2.2.2.2.2.2.2.2.2.2.1, y39.2.2.2.2.2.2.2.2.2.2.2.2.2.2.2.2.2.2.2.2.2.1, y39.2.2.2.2.2.2.2.2.2.2.2.2.2.2.2.2.2.2.2.2.2.2.1, y39.2.2.2.2.2.2.2.2.2.2.2.2.2.2.2.2.2.2.2.2.2.2.2.1, y39.2.2.2.2.2.2.2.2.2.2.2.2.2.2.2.2.2.2.2.2.2.2.2.2, y36.2, o4, ([] : List T_api_Alt)))
noncomputable def X_run_runner_ends_J4 (p1 : T_api_Ins) (o0_0 : (List T_api_Ins)) (o0_1 : (List T_api_Def)) (o0_2 : (List T_api_Chan)) (o0_3 : Int) (o0_4 : Int) (o0_5 : Int) (o0_6 : Int) (o0_8 : Int) (o0_9 : Int) (o0_10 : Int) (o0_11 : Int) (o0_12 : Int) (o0_13 : Int) (o0_14 : Int) (o0_15 : (List T_api_Alt)) (o0_17 : Int) (o0_18 : Int) (o0_19 : Int) (o0_20 : Int) (o0_21 : Int) (o0_22 : Int) (o0_23 : Int) (o0_24 : Int) (o0_27 : Int) (o0_28 : Bool) (o2 : T_stack_Stack_int_) (o1 : (List Int)) (o4 : (List Int)) (o5 : (List T_api_Alt)) (y2 : Int) (x33 : Bool) : Option (((List T_api_Ins) × (List T_api_Def) × (List T_api_Chan) × Int × Int × Int × Int × Int × Int × Int × Int × Int × Int × Int × (List T_api_Alt) × Int × Int × Int × Int × Int × Int × Int × Int × Int × Bool × T_stack_Stack_int_ × (List Int) × (List T_api_Alt)) ⊕ ((List T_api_Ins) × (List T_api_Def) × (List T_api_Chan) × Int × Int × Int × Int × Int × Int × Int × Int × Int × Int × Int × (List T_api_Alt) × Int × Int × Int × Int × Int × Int × Int × Int × Int × Bool × T_stack_Stack_int_ × (List T_api_Alt) × (List Int)) ⊕ ((List T_api_Ins) × (List T_api_Def) × (List T_api_Chan) × Int × Int × Int × Int × Int × Int × Int × Int × Int × Int × Int × (List T_api_Alt) × Int × Int × Int × Int × Int × Int × Int × Int × Int × Bool × (List T_api_Alt))) :=
  cond x33 ((X_run_runner_take o0_0 o0_1 o0_2 o0_3 o0_4 o0_5 o0_6 o0_8 o0_9 o0_10 o0_11 o0_12 o0_13 o0_14 o0_15 o0_17 o0_18 o0_19 o0_20 o0_21 o0_22 o0_23 o0_24 o0_27 o0_28 o2 o1 o4 ([] : List T_api_Alt)).bind fun y36 => cond (p1.Op == 15) (X_run_runner_ends_J5 o0_0 o0_1 o0_2 o0_3 o0_4 o0_5 o0_6 o0_8 o0_9 o0_10 o0_11 o0_12 o0_13 o0_14 o0_15 o0_17 o0_18 o0_19 o0_20 o0_21 o0_23 o0_24 o0_27 o0_28 o1 o4 y2 y36 8) (X_run_runner_ends_J5 o0_0 o0_1 o0_2 o0_3 o0_4 o0_5 o0_6 o0_8 o0_9 o0_10 o0_11 o0_12 o0_13 o0_14 o0_15 o0_17 o0_18 o0_19 o0_20 o0_21 o0_23 o0_24 o0_27 o0_28 o1 o4 y2 y36 6)) (cond (p1.Op == 14) ((X_stack_Stack_int_Take p1.B o2).bind fun y43 => (X_run_runner_end 7 y2 o0_0 o0_1 o0_2 o0_3 o0_4 o0_5 o0_6 o0_8 o0_9 o0_10 o0_11 o0_12 o0_13 o0_14 o0_15 o0_17 o0_18 o0_19 o0_20 o0_21 o0_22 o0_23 p1.A o0_27 o0_28 y43.2.2 o1 y43.1 ([] : List T_api_Alt)).bind fun y44 => some (.inr (.inl (y44.1, y44.2.1, y44.2.2.1, y44.2.2.2.1, y44.2.2.2.2.1, y44.2.2.2.2.2.1, y44.2.2.2.2.2.2.1, y44.2.2.2.2.2.2.2.1, y44.2.2.2.2.2.2.2.2.1, y44.2.2.2.2.2.2.2.2.2.1, y44.2.2.2.2.2.2.2.2.2.2.1, y44.2.2.2.2.2.2.2.2.2.2.2.1, y44.2.2.2.2.2.2.2.2.2.2.2.2.1, y44.2.2.2.2.2.2.2.2.2.2.2.2.2.1, y44.2.2.2.2.2.2.2.2.2.2.2.2.2.2.1, y44.2.2.2.2.2.2.2.2.2.2.2.2.2.2.2.1, y44.2.2.2.2.2.2.2.2.2.2.2.2.2.2.2.2.1, y44.2.2.2.2.2.2.2.2.2.2.2.2.2.2.2.2.2.1, y44.2.2.2.2.2.2.2.2.2.2.2.2.2.2.2.2.2.2.1, y44.2.2.2.2.2.2.2.2.2.2.2.2.2.2.2.2.2.2.2.1, y44.2.2.2.2.2.2.2.2.2.2.2.2.2.2.2.2.2.2.2.2.1, y44.2.2.2.2.2.2.2.2.2.2.2.2.2.2.2.2.2.2.2.2.2.1, y44.2.2.2.2.2.2.2.2.2.2.2.2.2.2.2.2.2.2.2.2.2.2.1, y44.2.2.2.2.2.2.2.2.2.2.2.2.2.2.2.2.2.2.2.2.2.2.2.1, y44.2.2.2.2.2.2.2.2.2.2.2.2.2.2.2.2.2.2.2.2.2.2.2.2, y43.2.2, ([] : List T_api_Alt), y43.1)))) (cond (p1.Op == 16) ((X_run_runner_take o0_0 o0_1 o0_2 o0_3 o0_4 o0_5 o0_6 o0_8 o0_9 o0_10 o0_11 o0_12 o0_13 o0_14 o0_15 o0_17 o0_18 o0_19 o0_20 o0_21 o0_22 o0_23 o0_24 o0_27 o0_28 o2 o1 o4 ([] : List T_api_Alt)).bind fun y52 => cond (y52.1 == 0) ((X_run_runner_fault 6 o0_0 o0_1 o0_2 o0_3 o0_4 o0_5 o0_6 o0_8 o0_9 o0_10 o0_11 o0_12 o0_13 o0_14 o0_15 o0_17 o0_18 o0_19 o0_20 o0_21 o0_22 o0_23 o0_24 o0_27 o0_28 y52.2 o1 o4 ([] : List T_api_Alt)).bind fun y55 => some (.inl (y55.1, y55.2.1, y55.2.2.1, y55.2.2.2.1, y55.2.2.2.2.1, y55.2.2.2.2.2.1, y55.2.2.2.2.2.2.1, y55.2.2.2.2.2.2.2.1, y55.2.2.2.2.2.2.2.2.1, y55.2.2.2.2.2.2.2.2.2.1, y55.2.2.2.2.2.2.2.2.2.2.1, y55.2.2.2.2.2.2.2.2.2.2.2.1, y55.2.2.2.2.2.2.2.2.2.2.2.2.1, y55.2.2.2.2.2.2.2.2.2.2.2.2.2.1, y55.2.2.2.2.2.2.2.2.2.2.2.2.2.2.1, y55.2.2.2.2.2.2.2.2.2.2.2.2.2.2.2.1, y55.2.2.2.2.2.2.2.2.2.2.2.2.2.2.2.2.1, y55.2.2.2.2.2.2.2.2.2.2.2.2.2.2.2.2.2.1, y55.2.2.2.2.2.2.2.2.2.2.2.2.2.2.2.2.2.2.1, y55.2.2.2.2.2.2.2.2.2.2.2.2.2.2.2.2.2.2.2.1, y55.2.2.2.2.2.2.2.2.2.2.2.2.2.2.2.2.2.2.2.2.1, y55.2.2.2.2.2.2.2.2.2.2.2.2.2.2.2.2.2.2.2.2.2.1, y55.2.2.2.2.2.2.2.2.2.2.2.2.2.2.2.2.2.2.2.2.2.2.1, y55.2.2.2.2.2.2.2.2.2.2.2.2.2.2.2.2.2.2.2.2.2.2.2.1, y55.2.2.2.2.2.2.2.2.2.2.2.2.2.2.2.2.2.2.2.2.2.2.2.2.1, y52.2, y55.2.2.2.2.2.2.2.2.2.2.2.2.2.2.2.2.2.2.2.2.2.2.2.2.2.1, y55.2.2.2.2.2.2.2.2.2.2.2.2.2.2.2.2.2.2.2.2.2.2.2.2.2.2))) ((X_run_runner_end 1 y2 o0_0 o0_1 o0_2 o0_3 o0_4 o0_5 o0_6 o0_8 o0_9 o0_10 o0_11 o0_12 o0_13 o0_14 o0_15 o0_17 o0_18 o0_19 o0_20 o0_21 o0_22 o0_23 o0_24 o0_27 o0_28 y52.2 o1 o4 ([] : List T_api_Alt)).bind fun y56 => some (.inl (y56.1, y56.2.1, y56.2.2.1, y56.2.2.2.1, y56.2.2.2.2.1, y56.2.2.2.2.2.1, y56.2.2.2.2.2.2.1, y56.2.2.2.2.2.2.2.1, y56.2.2.2.2.2.2.2.2.1, y56.2.2.2.2.2.2.2.2.2.1, y56.2.2.2.2.2.2.2.2.2.2.1, y56.2.2.2.2.2.2.2.2.2.2.2.1, y56.2.2.2.2.2.2.2.2.2.2.2.2.1, y56.2.2.2.2.2.2.2.2.2.2.2.2.2.1, y56.2.2.2.2.2.2.2.2.2.2.2.2.2.2.1, y56.2.2.2.2.2.2.2.2.2.2.2.2.2.2.2.1, y56.2.2.2.2.2.2.2.2.2.2.2.2.2.2.2.2.1, y56.2.2.2.2.2.2.2.2.2.2.2.2.2.2.2.2.2.1, y56.2.2.2.2.2.2.2.2.2.2.2.2.2.2.2.2.2.2.1, y56.2.2.2.2.2.2.2.2.2.2.2.2.2.2.2.2.2.2.2.1, y56.2.2.2.2.2.2.2.2.2.2.2.2.2.2.2.2.2.2.2.2.1, y56.2.2.2.2.2.2.2.2.2.2.2.2.2.2.2.2.2.2.2.2.2.1, y56.2.2.2.2.2.2.2.2.2.2.2.2.2.2.2.2.2.2.2.2.2.2.1, y56.2.2.2.2.2.2.2.2.2.2.2.2.2.2.2.2.2.2.2.2.2.2.2.1, y56.2.2.2.2.2.2.2.2.2.2.2.2.2.2.2.2.2.2.2.2.2.2.2.2, y52.2, o4, ([] : List T_api_Alt))))) (cond (p1.Op == 17) ((X_run_runner_end 1 y2 o0_0 o0_1 o0_2 o0_3 o0_4 o0_5 o0_6 o0_8 o0_9 o0_10 o0_11 o0_12 o0_13 o0_14 o0_15 o0_17 o0_18 o0_19 o0_20 o0_21 o0_22 o0_23 o0_24 o0_27 o0_28 o2 o1 o4 ([] : List T_api_Alt)).bind fun y58 => some (.inl (y58.1, y58.2.1, y58.2.2.1, y58.2.2.2.1, y58.2.2.2.2.1, y58.2.2.2.2.2.1, y58.2.2.2.2.2.2.1, y58.2.2.2.2.2.2.2.1, y58.2.2.2.2.2.2.2.2.1, y58.2.2.2.2.2.2.2.2.2.1, y58.2.2.2.2.2.2.2.2.2.2.1, y58.2.2.2.2.2.2.2.2.2.2.2.1, y58.2.2.2.2.2.2.2.2.2.2.2.2.1, y58.2.2.2.2.2.2.2.2.2.2.2.2.2.1, y58.2.2.2.2.2.2.2.2.2.2.2.2.2.2.1, y58.2.2.2.2.2.2.2.2.2.2.2.2.2.2.2.1, y58.2.2.2.2.2.2.2.2.2.2.2.2.2.2.2.2.1, y58.2.2.2.2.2.2.2.2.2.2.2.2.2.2.2.2.2.1, y58.2.2.2.2.2.2.2.2.2.2.2.2.2.2.2.2.2.2.1, y58.2.2.2.2.2.2.2.2.2.2.2.2.2.2.2.2.2.2.2.1, y58.2.2.2.2.2.2.2.2.2.2.2.2.2.2.2.2.2.2.2.2.1, y58.2.2.2.2.2.2.2.2.2.2.2.2.2.2.2.2.2.2.2.2.2.1, y58.2.2.2.2.2.2.2.2.2.2.2.2.2.2.2.2.2.2.2.2.2.2.1, y58.2.2.2.2.2.2.2.2.2.2.2.2.2.2.2.2.2.2.2.2.2.2.2.1, y58.2.2.2.2.2.2.2.2.2.2.2.2.2.2.2.2.2.2.2.2.2.2.2.2, o2, o4, ([] : List T_api_Alt)))) (cond (p1.Op == 18) ((X_run_runner_end 9 0 o0_0 o0_1 o0_2 o0_3 o0_4 o0_5 o0_6 o0_8 o0_9 o0_10 o0_11 o0_12 o0_13 o0_14 o0_15 o0_17 o0_18 o0_19 o0_20 o0_21 o0_22 o0_23 o0_24 o0_27 o0_28 o2 o1 o4 ([] : List T_api_Alt)).bind fun y60 => some (.inl (y60.1, y60.2.1, y60.2.2.1, y60.2.2.2.1, y60.2.2.2.2.1, y60.2.2.2.2.2.1, y60.2.2.2.2.2.2.1, y60.2.2.2.2.2.2.2.1, y60.2.2.2.2.2.2.2.2.1, y60.2.2.2.2.2.2.2.2.2.1, y60.2.2.2.2.2.2.2.2.2.2.1, y60.2.2.2.2.2.2.2.2.2.2.2.1, y60.2.2.2.2.2.2.2.2.2.2.2.2.1, y60.2.2.2.2.2.2.2.2.2.2.2.2.2.1, y60.2.2.2.2.2.2.2.2.2.2.2.2.2.2.1, y60.2.2.2.2.2.2.2.2.2.2.2.2.2.2.2.1, y60.2.2.2.2.2.2.2.2.2.2.2.2.2.2.2.2.1, y60.2.2.2.2.2.2.2.2.2.2.2.2.2.2.2.2.2.1, y60.2.2.2.2.2.2.2.2.2.2.2.2.2.2.2.2.2.2.1, y60.2.2.2.2.2.2.2.2.2.2.2.2.2.2.2.2.2.2.2.1, y60.2.2.2.2.2.2.2.2.2.2.2.2.2.2.2.2.2.2.2.2.1, y60.2.2.2.2.2.2.2.2.2.2.2.2.2.2.2.2.2.2.2.2.2.1, y60.2.2.2.2.2.2.2.2.2.2.2.2.2.2.2.2.2.2.2.2.2.2.1, y60.2.2.2.2.2.2.2.2.2.2.2.2.2.2.2.2.2.2.2.2.2.2.2.1, y60.2.2.2.2.2.2.2.2.2.2.2.2.2.2.2.2.2.2.2.2.2.2.2.2, o2, o4, ([] : List T_api_Alt)))) (cond (p1.Op == 23) ((X_run_runner_end 10 0 o0_0 o0_1 o0_2 o0_3 o0_4 o0_5 o0_6 o0_8 o0_9 o0_10 o0_11 o0_12 o0_13 o0_14 o0_15 o0_17 o0_18 o0_19 o0_20 o0_21 o0_22 o0_23 o0_24 o0_27 o0_28 o2 o1 o4 o5).bind fun y62 => some (.inr (.inr (y62.1, y62.2.1, y62.2.2.1, y62.2.2.2.1, y62.2.2.2.2.1, y62.2.2.2.2.2.1, y62.2.2.2.2.2.2.1, y62.2.2.2.2.2.2.2.1, y62.2.2.2.2.2.2.2.2.1, y62.2.2.2.2.2.2.2.2.2.1, y62.2.2.2.2.2.2.2.2.2.2.1, y62.2.2.2.2.2.2.2.2.2.2.2.1, y62.2.2.2.2.2.2.2.2.2.2.2.2.1, y62.2.2.2.2.2.2.2.2.2.2.2.2.2.1, y62.2.2.2.2.2.2.2.2.2.2.2.2.2.2.1, y62.2.2.2.2.2.2.2.2.2.2.2.2.2.2.2.1, y62.2.2.2.2.2.2.2.2.2.2.2.2.2.2.2.2.1, y62.2.2.2.2.2.2.2.2.2.2.2.2.2.2.2.2.2.1, y62.2.2.2.2.2.2.2.2.2.2.2.2.2.2.2.2.2.2.1, y62.2.2.2.2.2.2.2.2.2.2.2.2.2.2.2.2.2.2.2.1, y62.2.2.2.2.2.2.2.2.2.2.2.2.2.2.2.2.2.2.2.2.1, y62.2.2.2.2.2.2.2.2.2.2.2.2.2.2.2.2.2.2.2.2.2.1, y62.2.2.2.2.2.2.2.2.2.2.2.2.2.2.2.2.2.2.2.2.2.2.1, y62.2.2.2.2.2.2.2.2.2.2.2.2.2.2.2.2.2.2.2.2.2.2.2.1, y62.2.2.2.2.2.2.2.2.2.2.2.2.2.2.2.2.2.2.2.2.2.2.2.2, o5)))) (some (.inr (.inr (o0_0, o0_1, o0_2, o0_3, o0_4, o0_5, o0_6, o0_8, o0_9, o0_10, o0_11, o0_12, o0_13, o0_14, o0_15, o0_17, o0_18, o0_19, o0_20, o0_21, o0_22, o0_23, o0_24, o0_27, o0_28, ([] : List T_api_Alt))))))))))
noncomputable def X_run_runner_ends_J2 (p1 : T_api_Ins) (o0_0 : (List T_api_Ins)) (o0_1 : (List T_api_Def)) (o0_2 : (List T_api_Chan)) (o0_3 : Int) (o0_4 : Int) (o0_5 : Int) (o0_6 : Int) (o0_8 : Int) (o0_9 : Int) (o0_10 : Int) (o0_11 : Int) (o0_12 : Int) (o0_13 : Int) (o0_14 : Int) (o0_15 : (List T_api_Alt)) (o0_17 : Int) (o0_18 : Int) (o0_19 : Int) (o0_20 : Int) (o0_21 : Int) (o0_22 : Int) (o0_23 : Int) (o0_24 : Int) (o0_27 : Int) (o0_28 : Bool) (o2 : T_stack_Stack_int_) (o1 : (List Int)) (o4 : (List Int)) (o5 : (List T_api_Alt)) (y2 : Int) (x8 : Bool) : Option (((List T_api_Ins) × (List T_api_Def) × (List T_api_Chan) × Int × Int × Int × Int × Int × Int × Int × Int × Int × Int × Int × (List T_api_Alt) × Int × Int × Int × Int × Int × Int × Int × Int × Int × Bool × T_stack_Stack_int_ × (List Int) × (List T_api_Alt)) ⊕ ((List T_api_Ins) × (List T_api_Def) × (List T_api_Chan) × Int × Int × Int × Int × Int × Int × Int × Int × Int × Int × Int × (List T_api_Alt) × Int × Int × Int × Int × Int × Int × Int × Int × Int × Bool × T_stack_Stack_int_ × (List T_api_Alt) × (List Int)) ⊕ ((List T_api_Ins) × (List T_api_Def) × (List T_api_Chan) × Int × Int × Int × Int × Int × Int × Int × Int × Int × Int × Int × (List T_api_Alt) × Int × Int × Int × Int × Int × Int × Int × Int × Int × Bool × (List T_api_Alt))) :=
  cond x8 ((X_run_runner_take o0_0 o0_1 o0_2 o0_3 o0_4 o0_5 o0_6 o0_8 o0_9 o0_10 o0_11 o0_12 o0_13 o0_14 o0_15 o0_17 o0_18 o0_19 o0_20 o0_21 o0_22 o0_23 o0_24 o0_27 o0_28 o2 o1 o4 ([] : List T_api_Alt)).bind fun y11 => cond (p1.Op == 12) (X_run_runner_ends_J3 p1 o0_0 o0_1 o0_2 o0_3 o0_4 o0_5 o0_6 o0_8 o0_9 o0_10 o0_11 o0_12 o0_13 o0_14 o0_15 o0_17 o0_18 o0_19 o0_20 o0_21 o0_24 o0_27 o0_28 o1 o4 y2 y11 3) (X_run_runner_ends_J3 p1 o0_0 o0_1 o0_2 o0_3 o0_4 o0_5 o0_6 o0_8 o0_9 o0_10 o0_11 o0_12 o0_13 o0_14 o0_15 o0_17 o0_18 o0_19 o0_20 o0_21 o0_24 o0_27 o0_28 o1 o4 y2 y11 2)) (cond (p1.Op == 10) ((X_run_runner_take o0_0 o0_1 o0_2 o0_3 o0_4 o0_5 o0_6 o0_8 o0_9 o0_10 o0_11 o0_12 o0_13 o0_14 o0_15 o0_17 o0_18 o0_19 o0_20 o0_21 o0_22 o0_23 o0_24 o0_27 o0_28 o2 o1 o4 ([] : List T_api_Alt)).bind fun y18 => (X_run_runner_take o0_0 o0_1 o0_2 o0_3 o0_4 o0_5 o0_6 o0_8 o0_9 o0_10 o0_11 o0_12 o0_13 o0_14 o0_15 o0_17 o0_18 o0_19 o0_20 o0_21 y18.1 o0_23 o0_24 o0_27 o0_28 y18.2 o1 o4 ([] : List T_api_Alt)).bind fun y20 => (X_run_runner_none y20.1 o0_0 o0_1 o0_2 o0_3 o0_4 o0_5 o0_6 o0_8 o0_9 o0_10 o0_11 o0_12 o0_13 o0_14 o0_15 o0_17 o0_18 o0_19 o0_20 y20.1 y18.1 o0_23 o0_24 o0_27 o0_28 y20.2 o1 o4 ([] : List T_api_Alt)).bind fun y22 => cond (!y22.1) ((X_run_runner_end 4 y2 y22.2.1 y22.2.2.1 y22.2.2.2.1 y22.2.2.2.2.1 y22.2.2.2.2.2.1 y22.2.2.2.2.2.2.1 y22.2.2.2.2.2.2.2.1 y22.2.2.2.2.2.2.2.2.1 y22.2.2.2.2.2.2.2.2.2.1 y22.2.2.2.2.2.2.2.2.2.2.1 y22.2.2.2.2.2.2.2.2.2.2.2.1 y22.2.2.2.2.2.2.2.2.2.2.2.2.1 y22.2.2.2.2.2.2.2.2.2.2.2.2.2.1 y22.2.2.2.2.2.2.2.2.2.2.2.2.2.2.1 y22.2.2.2.2.2.2.2.2.2.2.2.2.2.2.2.1 y22.2.2.2.2.2.2.2.2.2.2.2.2.2.2.2.2.1 y22.2.2.2.2.2.2.2.2.2.2.2.2.2.2.2.2.2.1 y22.2.2.2.2.2.2.2.2.2.2.2.2.2.2.2.2.2.2.1 y22.2.2.2.2.2.2.2.2.2.2.2.2.2.2.2.2.2.2.2.1 y22.2.2.2.2.2.2.2.2.2.2.2.2.2.2.2.2.2.2.2.2.1 y22.2.2.2.2.2.2.2.2.2.2.2.2.2.2.2.2.2.2.2.2.2.1 y22.2.2.2.2.2.2.2.2.2.2.2.2.2.2.2.2.2.2.2.2.2.2.1 y22.2.2.2.2.2.2.2.2.2.2.2.2.2.2.2.2.2.2.2.2.2.2.2.1 y22.2.2.2.2.2.2.2.2.2.2.2.2.2.2.2.2.2.2.2.2.2.2.2.2.1 y22.2.2.2.2.2.2.2.2.2.2.2.2.2.2.2.2.2.2.2.2.2.2.2.2.2.1 y20.2 o1 y22.2.2.2.2.2.2.2.2.2.2.2.2.2.2.2.2.2.2.2.2.2.2.2.2.2.2.1 y22.2.2.2.2.2.2.2.2.2.2.2.2.2.2.2.2.2.2.2.2.2.2.2.2.2.2.2).bind fun y24 => some (.inl (y24.1, y24.2.1, y24.2.2.1, y24.2.2.2.1, y24.2.2.2.2.1, y24.2.2.2.2.2.1, y24.2.2.2.2.2.2.1, y24.2.2.2.2.2.2.2.1, y24.2.2.2.2.2.2.2.2.1, y24.2.2.2.2.2.2.2.2.2.1, y24.2.2.2.2.2.2.2.2.2.2.1, y24.2.2.2.2.2.2.2.2.2.2.2.1, y24.2.2.2.2.2.2.2.2.2.2.2.2.1, y24.2.2.2.2.2.2.2.2.2.2.2.2.2.1, y24.2.2.2.2.2.2.2.2.2.2.2.2.2.2.1, y24.2.2.2.2.2.2.2.2.2.2.2.2.2.2.2.1, y24.2.2.2.2.2.2.2.2.2.2.2.2.2.2.2.2.1, y24.2.2.2.2.2.2.2.2.2.2.2.2.2.2.2.2.2.1, y24.2.2.2.2.2.2.2.2.2.2.2.2.2.2.2.2.2.2.1, y24.2.2.2.2.2.2.2.2.2.2.2.2.2.2.2.2.2.2.2.1, y24.2.2.2.2.2.2.2.2.2.2.2.2.2.2.2.2.2.2.2.2.1, y24.2.2.2.2.2.2.2.2.2.2.2.2.2.2.2.2.2.2.2.2.2.1, y24.2.2.2.2.2.2.2.2.2.2.2.2.2.2.2.2.2.2.2.2.2.2.1, y24.2.2.2.2.2.2.2.2.2.2.2.2.2.2.2.2.2.2.2.2.2.2.2.1, y24.2.2.2.2.2.2.2.2.2.2.2.2.2.2.2.2.2.2.2.2.2.2.2.2, y20.2, y22.2.2.2.2.2.2.2.2.2.2.2.2.2.2.2.2.2.2.2.2.2.2.2.2.2.2.1, y22.2.2.2.2.2.2.2.2.2.2.2.2.2.2.2.2.2.2.2.2.2.2.2.2.2.2.2))) (some (.inl (y22.2.1, y22.2.2.1, y22.2.2.2.1, y22.2.2.2.2.1, y22.2.2.2.2.2.1, y22.2.2.2.2.2.2.1, y22.2.2.2.2.2.2.2.1, y22.2.2.2.2.2.2.2.2.1, y22.2.2.2.2.2.2.2.2.2.1, y22.2.2.2.2.2.2.2.2.2.2.1, y22.2.2.2.2.2.2.2.2.2.2.2.1, y22.2.2.2.2.2.2.2.2.2.2.2.2.1, y22.2.2.2.2.2.2.2.2.2.2.2.2.2.1, y22.2.2.2.2.2.2.2.2.2.2.2.2.2.2.1, y22.2.2.2.2.2.2.2.2.2.2.2.2.2.2.2.1, y22.2.2.2.2.2.2.2.2.2.2.2.2.2.2.2.2.1, y22.2.2.2.2.2.2.2.2.2.2.2.2.2.2.2.2.2.1, y22.2.2.2.2.2.2.2.2.2.2.2.2.2.2.2.2.2.2.1, y22.2.2.2.2.2.2.2.2.2.2.2.2.2.2.2.2.2.2.2.1, y22.2.2.2.2.2.2.2.2.2.2.2.2.2.2.2.2.2.2.2.2.1, y22.2.2.2.2.2.2.2.2.2.2.2.2.2.2.2.2.2.2.2.2.2.1, y22.2.2.2.2.2.2.2.2.2.2.2.2.2.2.2.2.2.2.2.2.2.2.1, y22.2.2.2.2.2.2.2.2.2.2.2.2.2.2.2.2.2.2.2.2.2.2.2.1, y22.2.2.2.2.2.2.2.2.2.2.2.2.2.2.2.2.2.2.2.2.2.2.2.2.1, y22.2.2.2.2.2.2.2.2.2.2.2.2.2.2.2.2.2.2.2.2.2.2.2.2.2.1, y20.2, y22.2.2.2.2.2.2.2.2.2.2.2.2.2.2.2.2.2.2.2.2.2.2.2.2.2.2.1, y22.2.2.2.2.2.2.2.2.2.2.2.2.2.2.2.2.2.2.2.2.2.2.2.2.2.2.2)))) (cond (p1.Op == 11) ((X_run_runner_take o0_0 o0_1 o0_2 o0_3 o0_4 o0_5 o0_6 o0_8 o0_9 o0_10 o0_11 o0_12 o0_13 o0_14 o0_15 o0_17 o0_18 o0_19 o0_20 o0_21 o0_22 o0_23 o0_24 o0_27 o0_28 o2 o1 o4 ([] : List T_api_Alt)).bind fun y27 => (X_run_runner_none y27.1 o0_0 o0_1 o0_2 o0_3 o0_4 o0_5 o0_6 o0_8 o0_9 o0_10 o0_11 o0_12 o0_13 o0_14 o0_15 o0_17 o0_18 o0_19 o0_20 y27.1 o0_22 p1.A o0_24 o0_27 o0_28 y27.2 o1 o4 ([] : List T_api_Alt)).bind fun y29 => cond (!y29.1) ((X_run_runner_end 5 y2 y29.2.1 y29.2.2.1 y29.2.2.2.1 y29.2.2.2.2.1 y29.2.2.2.2.2.1 y29.2.2.2.2.2.2.1 y29.2.2.2.2.2.2.2.1 y29.2.2.2.2.2.2.2.2.1 y29.2.2.2.2.2.2.2.2.2.1 y29.2.2.2.2.2.2.2.2.2.2.1 y29.2.2.2.2.2.2.2.2.2.2.2.1 y29.2.2.2.2.2.2.2.2.2.2.2.2.1 y29.2.2.2.2.2.2.2.2.2.2.2.2.2.1 y29.2.2.2.2.2.2.2.2.2.2.2.2.2.2.1 y29.2.2.2.2.2.2.2.2.2.2.2.2.2.2.2.1 y29.2.2.2.2.2.2.2.2.2.2.2.2.2.2.2.2.1 y29.2.2.2.2.2.2.2.2.2.2.2.2.2.2.2.2.2.1 y29.2.2.2.2.2.2.2.2.2.2.2.2.2.2.2.2.2.2.1 y29.2.2.2.2.2.2.2.2.2.2.2.2.2.2.2.2.2.2.2.1 y29.2.2.2.2.2.2.2.2.2.2.2.2.2.2.2.2.2.2.2.2.1 y29.2.2.2.2.2.2.2.2.2.2.2.2.2.2.2.2.2.2.2.2.2.1 y29.2.2.2.2.2.2.2.2.2.2.2.2.2.2.2.2.2.2.2.2.2.2.1 y29.2.2.2.2.2.2.2.2.2.2.2.2.2.2.2.2.2.2.2.2.2.2.2.1 y29.2.2.2.2.2.2.2.2.2.2.2.2.2.2.2.2.2.2.2.2.2.2.2.2.1 y29.2.2.2.2.2.2.2.2.2.2.2.2.2.2.2.2.2.2.2.2.2.2.2.2.2.1 y27.2 o1 y29.2.2.2.2.2.2.2.2.2.2.2.2.2.2.2.2.2.2.2.2.2.2.2.2.2.2.1 y29.2.2.2.2.2.2.2.2.2.2.2.2.2.2.2.2.2.2.2.2.2.2.2.2.2.2.2).bind fun y31 => some (.inl (y31.1, y31.2.1, y31.2.2.1, y31.2.2.2.1, y31.2.2.2.2.1, y31.2.2.2.2.2.1, y31.2.2.2.2.2.2.1, y31.2.2.2.2.2.2.2.1, y31.2.2.2.2.2.2.2.2.1, y31.2.2.2.2.2.2.2.2.2.1, y31.2.2.2.2.2.2.2.2.2.2.1, y31.2.2.2.2.2.2.2.2.2.2.2.1, y31.2.2.2.2.2.2.2.2.2.2.2.2.1, y31.2.2.2.2.2.2.2.2.2.2.2.2.2.1, y31.2.2.2.2.2.2.2.2.2.2.2.2.2.2.1, y31.2.2.2.2.2.2.2.2.2.2.2.2.2.2.2.1, y31.2.2.2.2.2.2.2.2.2.2.2.2.2.2.2.2.1, y31.2.2.2.2.2.2.2.2.2.2.2.2.2.2.2.2.2.1, y31.2.2.2.2.2.2.2.2.2.2.2.2.2.2.2.2.2.2.1, y31.2.2.2.2.2.2.2.2.2.2.2.2.2.2.2.2.2.2.2.1, y31.2.2.2.2.2.2.2.2.2.2.2.2.2.2.2.2.2.2.2.2.1, y31.2.2.2.2.2.2.2.2.2.2.2.2.2.2.2.2.2.2.2.2.2.1, y31.2.2.2.2.2.2.2.2.2.2.2.2.2.2.2.2.2.2.2.2.2.2.1, y31.2.2.2.2.2.2.2.2.2.2.2.2.2.2.2.2.2.2.2.2.2.2.2.1, y31.2.2.2.2.2.2.2.2.2.2.2.2.2.2.2.2.2.2.2.2.2.2.2.2, y27.2, y29.2.2.2.2.2.2.2.2.2.2.2.2.2.2.2.2.2.2.2.2.2.2.2.2.2.2.1, y29.2.2.2.2.2.2.2.2.2.2.2.2.2.2.2.2.2.2.2.2.2.2.2.2.2.2.2))) (some (.inl (y29.2.1, y29.2.2.1, y29.2.2.2.1, y29.2.2.2.2.1, y29.2.2.2.2.2.1, y29.2.2.2.2.2.2.1, y29.2.2.2.2.2.2.2.1, y29.2.2.2.2.2.2.2.2.1, y29.2.2.2.2.2.2.2.2.2.1, y29.2.2.2.2.2.2.2.2.2.2.1, y29.2.2.2.2.2.2.2.2.2.2.2.1, y29.2.2.2.2.2.2.2.2.2.2.2.2.1, y29.2.2.2.2.2.2.2.2.2.2.2.2.2.1, y29.2.2.2.2.2.2.2.2.2.2.2.2.2.2.1, y29.2.2.2.2.2.2.2.2.2.2.2.2.2.2.2.1, y29.2.2.2.2.2.2.2.2.2.2.2.2.2.2.2.2.1, y29.2.2.2.2.2.2.2.2.2.2.2.2.2.2.2.2.2.1, y29.2.2.2.2.2.2.2.2.2.2.2.2.2.2.2.2.2.2.1, y29.2.2.2.2.2.2.2.2.2.2.2.2.2.2.2.2.2.2.2.1, y29.2.2.2.2.2.2.2.2.2.2.2.2.2.2.2.2.2.2.2.2.1, y29.2.2.2.2.2.2.2.2.2.2.2.2.2.2.2.2.2.2.2.2.2.1, y29.2.2.2.2.2.2.2.2.2.2.2.2.2.2.2.2.2.2.2.2.2.2.1, y29.2.2.2.2.2.2.2.2.2.2.2.2.2.2.2.2.2.2.2.2.2.2.2.1, y29.2.2.2.2.2.2.2.2.2.2.2.2.2.2.2.2.2.2.2.2.2.2.2.2.1, y29.2.2.2.2.2.2.2.2.2.2.2.2.2.2.2.2.2.2.2.2.2.2.2.2.2.1, y27.2, y29.2.2.2.2.2.2.2.2.2.2.2.2.2.2.2.2.2.2.2.2.2.2.2.2.2.2.1, y29.2.2.2.2.2.2.2.2.2.2.2.2.2.2.2.2.2.2.2.2.2.2.2.2.2.2.2)))) (cond (p1.Op == 13) (X_run_runner_ends_J4 p1 o0_0 o0_1 o0_2 o0_3 o0_4 o0_5 o0_6 o0_8 o0_9 o0_10 o0_11 o0_12 o0_13 o0_14 o0_15 o0_17 o0_18 o0_19 o0_20 o0_21 o0_22 o0_23 o0_24 o0_27 o0_28 o2 o1 o4 o5 y2 (p1.Op == 13)) (X_run_runner_ends_J4 p1 o0_0 o0_1 o0_2 o0_3 o0_4 o0_5 o0_6 o0_8 o0_9 o0_10 o0_11 o0_12 o0_13 o0_14 o0_15 o0_17 o0_18 o0_19 o0_20 o0_21 o0_22 o0_23 o0_24 o0_27 o0_28 o2 o1 o4 o5 y2 (p1.Op == 15)))))
noncomputable def X_run_runner_ends_J1 (p1 : T_api_Ins) (p2 : Int) (o0_0 : (List T_api_Ins)) (o0_1 : (List T_api_Def)) (o0_2 : (List T_api_Chan)) (o0_3 : Int) (o0_4 : Int) (o0_5 : Int) (o0_6 : Int) (o0_8 : Int) (o0_9 : Int) (o0_10 : Int) (o0_11 : Int) (o0_12 : Int) (o0_13 : Int) (o0_14 : Int) (o0_15 : (List T_api_Alt)) (o0_17 : Int) (o0_18 : Int) (o0_19 : Int) (o0_20 : Int) (o0_21 : Int) (o0_22 : Int) (o0_23 : Int) (o0_24 : Int) (o0_27 : Int) (o0_28 : Bool) (o2 : T_stack_Stack_int_) (o1 : (List Int)) (o4 : (List Int)) (o5 : (List T_api_Alt)) (y2 : Int) (x4 : Bool) : Option (((List T_api_Ins) × (List T_api_Def) × (List T_api_Chan) × Int × Int × Int × Int × Int × Int × Int × Int × Int × Int × Int × (List T_api_Alt) × Int × Int × Int × Int × Int × Int × Int × Int × Int × Bool × T_stack_Stack_int_ × (List Int) × (List T_api_Alt)) ⊕ ((List T_api_Ins) × (List T_api_Def) × (List T_api_Chan) × Int × Int × Int × Int × Int × Int × Int × Int × Int × Int × Int × (List T_api_Alt) × Int × Int × Int × Int × Int × Int × Int × Int × Int × Bool × T_stack_Stack_int_ × (List T_api_Alt) × (List Int)) ⊕ ((List T_api_Ins) × (List T_api_Def) × (List T_api_Chan) × Int × Int × Int × Int × Int × Int × Int × Int × Int × Int × Int × (List T_api_Alt) × Int × Int × Int × Int × Int × Int × Int × Int × Int × Bool × (List T_api_Alt))) :=
  cond x4 ((X_run_runner_end 1 p2 o0_0 o0_1 o0_2 o0_3 o0_4 o0_5 o0_6 o0_8 o0_9 o0_10 o0_11 o0_12 o0_13 o0_14 o0_15 o0_17 o0_18 o0_19 o0_20 o0_21 o0_22 o0_23 o0_24 o0_27 o0_28 o2 o1 o4 ([] : List T_api_Alt)).bind fun y6 => some (.inl (y6.1, y6.2.1, y6.2.2.1, y6.2.2.2.1, y6.2.2.2.2.1, y6.2.2.2.2.2.1, y6.2.2.2.2.2.2.1, y6.2.2.2.2.2.2.2.1, y6.2.2.2.2.2.2.2.2.1, y6.2.2.2.2.2.2.2.2.2.1, y6.2.2.2.2.2.2.2.2.2.2.1, y6.2.2.2.2.2.2.2.2.2.2.2.1, y6.2.2.2.2.2.2.2.2.2.2.2.2.1, y6.2.2.2.2.2.2.2.2.2.2.2.2.2.1, y6.2.2.2.2.2.2.2.2.2.2.2.2.2.2.1, y6.2.2.2.2.2.2.2.2.2.2.2.2.2.2.2.1, y6.2.2.2.2.2.2.2.2.2.2.2.2.2.2.2.2.1, y6.2.2.2.2.2.2.2.2.2.2.2.2.2.2.2.2.2.1, y6.2.2.2.2.2.2.2.2.2.2.2.2.2.2.2.2.2.2.1, y6.2.2.2.2.2.2.2.2.2.2.2.2.2.2.2.2.2.2.2.1, y6.2.2.2.2.2.2.2.2.2.2.2.2.2.2.2.2.2.2.2.2.1, y6.2.2.2.2.2.2.2.2.2.2.2.2.2.2.2.2.2.2.2.2.2.1, y6.2.2.2.2.2.2.2.2.2.2.2.2.2.2.2.2.2.2.2.2.2.2.1, y6.2.2.2.2.2.2.2.2.2.2.2.2.2.2.2.2.2.2.2.2.2.2.2.1, y6.2.2.2.2.2.2.2.2.2.2.2.2.2.2.2.2.2.2.2.2.2.2.2.2, o2, o4, ([] : List T_api_Alt)))) (cond (p1.Op == 4) (X_run_runner_ends_J2 p1 o0_0 o0_1 o0_2 o0_3 o0_4 o0_5 o0_6 o0_8 o0_9 o0_10 o0_11 o0_12 o0_13 o0_14 o0_15 o0_17 o0_18 o0_19 o0_20 o0_21 o0_22 o0_23 o0_24 o0_27 o0_28 o2 o1 o4 o5 y2 (p1.Op == 4)) (X_run_runner_ends_J2 p1 o0_0 o0_1 o0_2 o0_3 o0_4 o0_5 o0_6 o0_8 o0_9 o0_10 o0_11 o0_12 o0_13 o0_14 o0_15 o0_17 o0_18 o0_19 o0_20 o0_21 o0_22 o0_23 o0_24 o0_27 o0_28 o2 o1 o4 o5 y2 (p1.Op == 12)))
noncomputable def X_run_runner_ends (p1 : T_api_Ins) (p2 : Int) (o0_0 : (List T_api_Ins)) (o0_1 : (List T_api_Def)) (o0_2 : (List T_api_Chan)) (o0_3 : Int) (o0_4 : Int) (o0_5 : Int) (o0_6 : Int) (o0_8 : Int) (o0_9 : Int) (o0_10 : Int) (o0_11 : Int) (o0_12 : Int) (o0_13 : Int) (o0_14 : Int) (o0_15 : (List T_api_Alt)) (o0_17 : Int) (o0_18 : Int) (o0_19 : Int) (o0_20 : Int) (o0_21 : Int) (o0_22 : Int) (o0_23 : Int) (o0_24 : Int) (o0_27 : Int) (o0_28 : Bool) (o2 : T_stack_Stack_int_) (o1 : (List Int)) (o4 : (List Int)) (o5 : (List T_api_Alt)) : Option (((List T_api_Ins) × (List T_api_Def) × (List T_api_Chan) × Int × Int × Int × Int × Int × Int × Int × Int × Int × Int × Int × (List T_api_Alt) × Int × Int × Int × Int × Int × Int × Int × Int × Int × Bool × T_stack_Stack_int_ × (List Int) × (List T_api_Alt)) ⊕ ((List T_api_Ins) × (List T_api_Def) × (List T_api_Chan) × Int × Int × Int × Int × Int × Int × Int × Int × Int × Int × Int × (List T_api_Alt) × Int × Int × Int × Int × Int × Int × Int × Int × Int × Bool × T_stack_Stack_int_ × (List T_api_Alt) × (List Int)) ⊕ ((List T_api_Ins) × (List T_api_Def) × (List T_api_Chan) × Int × Int × Int × Int × Int × Int × Int × Int × Int × Int × Int × (List T_api_Alt) × Int × Int × Int × Int × Int × Int × Int × Int × Int × Bool × (List T_api_Alt))) :=
  (X_code_Settle (⟨o0_0, o0_1, o0_2, o0_3, o0_4⟩ : T_api_Code) (w64 (p2 + 1))).bind fun y2 => cond (p1.Op == 1) (X_run_runner_ends_J1 p1 p2 o0_0 o0_1 o0_2 o0_3 o0_4 o0_5 o0_6 o0_8 o0_9 o0_10 o0_11 o0_12 o0_13 o0_14 o0_15 o0_17 o0_18 o0_19 o0_20 o0_21 o0_22 o0_23 o0_24 o0_27 o0_28 o2 o1 o4 o5 y2 (p1.Op == 1)) (X_run_runner_ends_J1 p1 p2 o0_0 o0_1 o0_2 o0_3 o0_4 o0_5 o0_6 o0_8 o0_9 o0_10 o0_11 o0_12 o0_13 o0_14 o0_15 o0_17 o0_18 o0_19 o0_20 o0_21 o0_22 o0_23 o0_24 o0_27 o0_28 o2 o1 o4 o5 y2 (p1.Op == 24))
noncomputable def X_run_Step_J2 (x126 : (List T_api_Ins)) (x127 : (List T_api_Def)) (x128 : (List T_api_Chan)) (x129 : Int) (x130 : Int) (x131 : Int) (x132 : Int) (x133 : Int) (x134 : Int) (x135 : Int) (x136 : Int) (x137 : Int) (x138 : Int) (x139 : Int) (x140 : (List T_api_Alt)) (x141 : Int) (x142 : Int) (x143 : Int) (x144 : Int) (x145 : Int) (x146 : Int) (x147 : Int) (x148 : Int) (x149 : Int) (x150 : Bool) (x151 : Int) (x152 : (List Int)) (x153 : (List Int)) (x154 : (List T_api_Alt)) : Option (T_api_Effect) :=
  some (⟨x142, x143, x144, x145, x146, x147, x148, x153, x154, x149⟩ : T_api_Effect)
noncomputable def X_run_Step_J3 (x155 : Int) (x211 : (List T_api_Ins)) (x212 : (List T_api_Def)) (x213 : (List T_api_Chan)) (x214 : Int) (x215 : Int) (x216 : Int) (x217 : Int) (x218 : Int) (x219 : Int) (x220 : Int) (x221 : Int) (x222 : Int) (x223 : Int) (x224 : Int) (x225 : (List T_api_Alt)) (x226 : Int) (x227 : Int) (x228 : Int) (x229 : Int) (x230 : Int) (x231 : Int) (x232 : Int) (x233 : Int) (x234 : Int) (x235 : Bool) (x236 : Int) (x237 : (List Int)) (x238 : (List Int)) (x239 : (List T_api_Alt)) : Option ((Int × (List T_api_Ins) × (List T_api_Def) × (List T_api_Chan) × Int × Int × Int × Int × Int × Int × Int × Int × Int × Int × Int × (List T_api_Alt) × Int × Int × Int × Int × Int × Int × Int × Int × Int × Bool × Int × (List Int) × (List Int) × (List T_api_Alt)) ⊕ (T_api_Effect)) :=
  some (.inl ((w64 (x155 + 1)), x211, x212, x213, x214, x215, x216, x217, x218, x219, x220, x221, x222, x223, x224, x225, x226, x227, x228, x229, x230, x231, x232, x233, x234, x235, x236, x237, x238, x239))
noncomputable def X_run_Step_J4 (p0 : T_api_Code) (o0 : (List Int)) (x155 : Int) (x156 : (List T_api_Ins)) (x157 : (List T_api_Def)) (x158 : (List T_api_Chan)) (x159 : Int) (x160 : Int) (x161 : Int) (x162 : Int) (x163 : Int) (x164 : Int) (x165 : Int) (x166 : Int) (x167 : Int) (x168 : Int) (x169 : Int) (x170 : (List T_api_Alt)) (x171 : Int) (x172 : Int) (x173 : Int) (x174 : Int) (x175 : Int) (x176 : Int) (x177 : Int) (x178 : Int) (x179 : Int) (x180 : Bool) (x181 : Int) (x182 : (List Int)) (x183 : (List Int)) (x184 : (List T_api_Alt)) (x248 : Bool) : Option ((Int × (List T_api_Ins) × (List T_api_Def) × (List T_api_Chan) × Int × Int × Int × Int × Int × Int × Int × Int × Int × Int × Int × (List T_api_Alt) × Int × Int × Int × Int × Int × Int × Int × Int × Int × Bool × Int × (List Int) × (List Int) × (List T_api_Alt)) ⊕ (T_api_Effect)) :=
  cond x248 ((X_run_Step_J2 x156 x157 x158 x159 x160 x161 x162 x163 x164 x165 x166 x167 x168 x169 x170 x171 x172 x173 x174 x175 x176 x177 x178 x179 x180 x181 x182 x183 x184).map Sum.inr) ((lAt p0.Ins x171).bind fun y254 => (X_run_runner_reckons y254 x156 x157 x158 x159 x160 x161 x162 x163 x164 x165 x166 x167 x168 x169 x170 (w64 (x171 + 1)) x172 x173 x174 x175 x176 x177 x178 x179 x180 (⟨x182, x181⟩ : T_stack_Stack_int_) o0 x183 x184).bind fun y255 => cond (!y255.1) ((lAt p0.Ins x171).bind fun y257 => (X_run_runner_ends y257 x171 y255.2.1 y255.2.2.1 y255.2.2.2.1 y255.2.2.2.2.1 y255.2.2.2.2.2.1 y255.2.2.2.2.2.2.1 y255.2.2.2.2.2.2.2.1 y255.2.2.2.2.2.2.2.2.1 y255.2.2.2.2.2.2.2.2.2.1 y255.2.2.2.2.2.2.2.2.2.2.1 y255.2.2.2.2.2.2.2.2.2.2.2.1 y255.2.2.2.2.2.2.2.2.2.2.2.2.1 y255.2.2.2.2.2.2.2.2.2.2.2.2.2.1 y255.2.2.2.2.2.2.2.2.2.2.2.2.2.2.1 y255.2.2.2.2.2.2.2.2.2.2.2.2.2.2.2.1 y255.2.2.2.2.2.2.2.2.2.2.2.2.2.2.2.2.1 y255.2.2.2.2.2.2.2.2.2.2.2.2.2.2.2.2.2.1 y255.2.2.2.2.2.2.2.2.2.2.2.2.2.2.2.2.2.2.1 y255.2.2.2.2.2.2.2.2.2.2.2.2.2.2.2.2.2.2.2.1 y255.2.2.2.2.2.2.2.2.2.2.2.2.2.2.2.2.2.2.2.2.1 y255.2.2.2.2.2.2.2.2.2.2.2.2.2.2.2.2.2.2.2.2.2.1 y255.2.2.2.2.2.2.2.2.2.2.2.2.2.2.2.2.2.2.2.2.2.2.1 y255.2.2.2.2.2.2.2.2.2.2.2.2.2.2.2.2.2.2.2.2.2.2.2.1 y255.2.2.2.2.2.2.2.2.2.2.2.2.2.2.2.2.2.2.2.2.2.2.2.2.1 y255.2.2.2.2.2.2.2.2.2.2.2.2.2.2.2.2.2.2.2.2.2.2.2.2.2.1 y255.2.2.2.2.2.2.2.2.2.2.2.2.2.2.2.2.2.2.2.2.2.2.2.2.2.2.1 o0 y255.2.2.2.2.2.2.2.2.2.2.2.2.2.2.2.2.2.2.2.2.2.2.2.2.2.2.2.1 y255.2.2.2.2.2.2.2.2.2.2.2.2.2.2.2.2.2.2.2.2.2.2.2.2.2.2.2.2).bind fun y258 => (Sum.elim (fun y259 => X_run_Step_J3 x155 y259.1 y259.2.1 y259.2.2.1 y259.2.2.2.1 y259.2.2.2.2.1 y259.2.2.2.2.2.1 y259.2.2.2.2.2.2.1 y259.2.2.2.2.2.2.2.1 y259.2.2.2.2.2.2.2.2.1 y259.2.2.2.2.2.2.2.2.2.1 y259.2.2.2.2.2.2.2.2.2.2.1 y259.2.2.2.2.2.2.2.2.2.2.2.1 y259.2.2.2.2.2.2.2.2.2.2.2.2.1 y259.2.2.2.2.2.2.2.2.2.2.2.2.2.1 y259.2.2.2.2.2.2.2.2.2.2.2.2.2.2.1 y259.2.2.2.2.2.2.2.2.2.2.2.2.2.2.2.1 y259.2.2.2.2.2.2.2.2.2.2.2.2.2.2.2.2.1 y259.2.2.2.2.2.2.2.2.2.2.2.2.2.2.2.2.2.1 y259.2.2.2.2.2.2.2.2.2.2.2.2.2.2.2.2.2.2.1 y259.2.2.2.2.2.2.2.2.2.2.2.2.2.2.2.2.2.2.2.1 y259.2.2.2.2.2.2.2.2.2.2.2.2.2.2.2.2.2.2.2.2.1 y259.2.2.2.2.2.2.2.2.2.2.2.2.2.2.2.2.2.2.2.2.2.1 y259.2.2.2.2.2.2.2.2.2.2.2.2.2.2.2.2.2.2.2.2.2.2.1 y259.2.2.2.2.2.2.2.2.2.2.2.2.2.2.2.2.2.2.2.2.2.2.2.1 y259.2.2.2.2.2.2.2.2.2.2.2.2.2.2.2.2.2.2.2.2.2.2.2.2.1 y259.2.2.2.2.2.2.2.2.2.2.2.2.2.2.2.2.2.2.2.2.2.2.2.2.2.1.most y259.2.2.2.2.2.2.2.2.2.2.2.2.2.2.2.2.2.2.2.2.2.2.2.2.2.1.l y259.2.2.2.2.2.2.2.2.2.2.2.2.2.2.2.2.2.2.2.2.2.2.2.2.2.2.1 y259.2.2.2.2.2.2.2.2.2.2.2.2.2.2.2.2.2.2.2.2.2.2.2.2.2.2.2) (Sum.elim (fun y260 => X_run_Step_J3 x155 y260.1 y260.2.1 y260.2.2.1 y260.2.2.2.1 y260.2.2.2.2.1 y260.2.2.2.2.2.1 y260.2.2.2.2.2.2.1 y260.2.2.2.2.2.2.2.1 y260.2.2.2.2.2.2.2.2.1 y260.2.2.2.2.2.2.2.2.2.1 y260.2.2.2.2.2.2.2.2.2.2.1 y260.2.2.2.2.2.2.2.2.2.2.2.1 y260.2.2.2.2.2.2.2.2.2.2.2.2.1 y260.2.2.2.2.2.2.2.2.2.2.2.2.2.1 y260.2.2.2.2.2.2.2.2.2.2.2.2.2.2.1 y260.2.2.2.2.2.2.2.2.2.2.2.2.2.2.2.1 y260.2.2.2.2.2.2.2.2.2.2.2.2.2.2.2.2.1 y260.2.2.2.2.2.2.2.2.2.2.2.2.2.2.2.2.2.1 y260.2.2.2.2.2.2.2.2.2.2.2.2.2.2.2.2.2.2.1 y260.2.2.2.2.2.2.2.2.2.2.2.2.2.2.2.2.2.2.2.1 y260.2.2.2.2.2.2.2.2.2.2.2.2.2.2.2.2.2.2.2.2.1 y260.2.2.2.2.2.2.2.2.2.2.2.2.2.2.2.2.2.2.2.2.2.1 y260.2.2.2.2.2.2.2.2.2.2.2.2.2.2.2.2.2.2.2.2.2.2.1 y260.2.2.2.2.2.2.2.2.2.2.2.2.2.2.2.2.2.2.2.2.2.2.2.1 y260.2.2.2.2.2.2.2.2.2.2.2.2.2.2.2.2.2.2.2.2.2.2.2.2.1 y260.2.2.2.2.2.2.2.2.2.2.2.2.2.2.2.2.2.2.2.2.2.2.2.2.2.1.most y260.2.2.2.2.2.2.2.2.2.2.2.2.2.2.2.2.2.2.2.2.2.2.2.2.2.1.l y260.2.2.2.2.2.2.2.2.2.2.2.2.2.2.2.2.2.2.2.2.2.2.2.2.2.2.2 y260.2.2.2.2.2.2.2.2.2.2.2.2.2.2.2.2.2.2.2.2.2.2.2.2.2.2.1) (fun y261 => X_run_Step_J3 x155 y261.1 y261.2.1 y261.2.2.1 y261.2.2.2.1 y261.2.2.2.2.1 y261.2.2.2.2.2.1 y261.2.2.2.2.2.2.1 y261.2.2.2.2.2.2.2.1 y261.2.2.2.2.2.2.2.2.1 y261.2.2.2.2.2.2.2.2.2.1 y261.2.2.2.2.2.2.2.2.2.2.1 y261.2.2.2.2.2.2.2.2.2.2.2.1 y261.2.2.2.2.2.2.2.2.2.2.2.2.1 y261.2.2.2.2.2.2.2.2.2.2.2.2.2.1 y261.2.2.2.2.2.2.2.2.2.2.2.2.2.2.1 y261.2.2.2.2.2.2.2.2.2.2.2.2.2.2.2.1 y261.2.2.2.2.2.2.2.2.2.2.2.2.2.2.2.2.1 y261.2.2.2.2.2.2.2.2.2.2.2.2.2.2.2.2.2.1 y261.2.2.2.2.2.2.2.2.2.2.2.2.2.2.2.2.2.2.1 y261.2.2.2.2.2.2.2.2.2.2.2.2.2.2.2.2.2.2.2.1 y261.2.2.2.2.2.2.2.2.2.2.2.2.2.2.2.2.2.2.2.2.1 y261.2.2.2.2.2.2.2.2.2.2.2.2.2.2.2.2.2.2.2.2.2.1 y261.2.2.2.2.2.2.2.2.2.2.2.2.2.2.2.2.2.2.2.2.2.2.1 y261.2.2.2.2.2.2.2.2.2.2.2.2.2.2.2.2.2.2.2.2.2.2.2.1 y261.2.2.2.2.2.2.2.2.2.2.2.2.2.2.2.2.2.2.2.2.2.2.2.2.1 y255.2.2.2.2.2.2.2.2.2.2.2.2.2.2.2.2.2.2.2.2.2.2.2.2.2.2.1.most y255.2.2.2.2.2.2.2.2.2.2.2.2.2.2.2.2.2.2.2.2.2.2.2.2.2.2.1.l y255.2.2.2.2.2.2.2.2.2.2.2.2.2.2.2.2.2.2.2.2.2.2.2.2.2.2.2.1 y261.2.2.2.2.2.2.2.2.2.2.2.2.2.2.2.2.2.2.2.2.2.2.2.2.2))) y258) (X_run_Step_J3 x155 y255.2.1 y255.2.2.1 y255.2.2.2.1 y255.2.2.2.2.1 y255.2.2.2.2.2.1 y255.2.2.2.2.2.2.1 y255.2.2.2.2.2.2.2.1 y255.2.2.2.2.2.2.2.2.1 y255.2.2.2.2.2.2.2.2.2.1 y255.2.2.2.2.2.2.2.2.2.2.1 y255.2.2.2.2.2.2.2.2.2.2.2.1 y255.2.2.2.2.2.2.2.2.2.2.2.2.1 y255.2.2.2.2.2.2.2.2.2.2.2.2.2.1 y255.2.2.2.2.2.2.2.2.2.2.2.2.2.2.1 y255.2.2.2.2.2.2.2.2.2.2.2.2.2.2.2.1 y255.2.2.2.2.2.2.2.2.2.2.2.2.2.2.2.2.1 y255.2.2.2.2.2.2.2.2.2.2.2.2.2.2.2.2.2.1 y255.2.2.2.2.2.2.2.2.2.2.2.2.2.2.2.2.2.2.1 y255.2.2.2.2.2.2.2.2.2.2.2.2.2.2.2.2.2.2.2.1 y255.2.2.2.2.2.2.2.2.2.2.2.2.2.2.2.2.2.2.2.2.1 y255.2.2.2.2.2.2.2.2.2.2.2.2.2.2.2.2.2.2.2.2.2.1 y255.2.2.2.2.2.2.2.2.2.2.2.2.2.2.2.2.2.2.2.2.2.2.1 y255.2.2.2.2.2.2.2.2.2.2.2.2.2.2.2.2.2.2.2.2.2.2.2.1 y255.2.2.2.2.2.2.2.2.2.2.2.2.2.2.2.2.2.2.2.2.2.2.2.2.1 y255.2.2.2.2.2.2.2.2.2.2.2.2.2.2.2.2.2.2.2.2.2.2.2.2.2.1 y255.2.2.2.2.2.2.2.2.2.2.2.2.2.2.2.2.2.2.2.2.2.2.2.2.2.2.1.most y255.2.2.2.2.2.2.2.2.2.2.2.2.2.2.2.2.2.2.2.2.2.2.2.2.2.2.1.l y255.2.2.2.2.2.2.2.2.2.2.2.2.2.2.2.2.2.2.2.2.2.2.2.2.2.2.2.1 y255.2.2.2.2.2.2.2.2.2.2.2.2.2.2.2.2.2.2.2.2.2.2.2.2.2.2.2.2))
noncomputable def X_run_Step_L5 (p0 : T_api_Code) (o0 : (List Int)) (x155 : Int) (x156 : (List T_api_Ins)) (x157 : (List T_api_Def)) (x158 : (List T_api_Chan)) (x159 : Int) (x160 : Int) (x161 : Int) (x162 : Int) (x163 : Int) (x164 : Int) (x165 : Int) (x166 : Int) (x167 : Int) (x168 : Int) (x169 : Int) (x170 : (List T_api_Alt)) (x171 : Int) (x172 : Int) (x173 : Int) (x174 : Int) (x175 : Int) (x176 : Int) (x177 : Int) (x178 : Int) (x179 : Int) (x180 : Bool) (x181 : Int) (x182 : (List Int)) (x183 : (List Int)) (x184 : (List T_api_Alt)) : Option ((Int × (List T_api_Ins) × (List T_api_Def) × (List T_api_Chan) × Int × Int × Int × Int × Int × Int × Int × Int × Int × Int × Int × (List T_api_Alt) × Int × Int × Int × Int × Int × Int × Int × Int × Int × Bool × Int × (List Int) × (List Int) × (List T_api_Alt)) ⊕ (T_api_Effect)) :=
  cond (decide (x155 < ((p0.Ins).length : Int))) (cond x180 (X_run_Step_J4 p0 o0 x155 x156 x157 x158 x159 x160 x161 x162 x163 x164 x165 x166 x167 x168 x169 x170 x171 x172 x173 x174 x175 x176 x177 x178 x179 x180 x181 x182 x183 x184 true) (cond (decide (x171 < 0)) (X_run_Step_J4 p0 o0 x155 x156 x157 x158 x159 x160 x161 x162 x163 x164 x165 x166 x167 x168 x169 x170 x171 x172 x173 x174 x175 x176 x177 x178 x179 x180 x181 x182 x183 x184 true) (X_run_Step_J4 p0 o0 x155 x156 x157 x158 x159 x160 x161 x162 x163 x164 x165 x166 x167 x168 x169 x170 x171 x172 x173 x174 x175 x176 x177 x178 x179 x180 x181 x182 x183 x184 (decide (((p0.Ins).length : Int) ≤ x171))))) ((X_run_Step_J2 x156 x157 x158 x159 x160 x161 x162 x163 x164 x165 x166 x167 x168 x169 x170 x171 x172 x173 x174 x175 x176 x177 x178 x179 x180 x181 x182 x183 x184).map Sum.inr)
noncomputable def X_run_Step_J1 (p0 : T_api_Code) (p1_0 : Int) (p1_1 : Int) (p1_3 : Int) (p1_4 : Int) (p1_5 : Int) (p1_6 : Int) (p1_7 : Int) (p1_8 : Int) (p1_9 : Int) (p1_10 : (List T_api_Alt)) (o0 : (List Int)) (x9 : Bool) : Option (T_api_Effect) :=
  cond x9 (some (⟨0, 0, 0, 0, 0, 0, 0, ([] : List Int), ([] : List T_api_Alt), 0⟩ : T_api_Effect)) ((X_stack_New_int 12).bind fun y13 => (lAt p0.Ins p1_1).bind fun y14 => Loopx (fun s : (Int × (List T_api_Ins) × (List T_api_Def) × (List T_api_Chan) × Int × Int × Int × Int × Int × Int × Int × Int × Int × Int × Int × (List T_api_Alt) × Int × Int × Int × Int × Int × Int × Int × Int × Int × Bool × Int × (List Int) × (List Int) × (List T_api_Alt)) => X_run_Step_L5 p0 o0 s.1 s.2.1 s.2.2.1 s.2.2.2.1 s.2.2.2.2.1 s.2.2.2.2.2.1 s.2.2.2.2.2.2.1 s.2.2.2.2.2.2.2.1 s.2.2.2.2.2.2.2.2.1 s.2.2.2.2.2.2.2.2.2.1 s.2.2.2.2.2.2.2.2.2.2.1 s.2.2.2.2.2.2.2.2.2.2.2.1 s.2.2.2.2.2.2.2.2.2.2.2.2.1 s.2.2.2.2.2.2.2.2.2.2.2.2.2.1 s.2.2.2.2.2.2.2.2.2.2.2.2.2.2.1 s.2.2.2.2.2.2.2.2.2.2.2.2.2.2.2.1 s.2.2.2.2.2.2.2.2.2.2.2.2.2.2.2.2.1 s.2.2.2.2.2.2.2.2.2.2.2.2.2.2.2.2.2.1 s.2.2.2.2.2.2.2.2.2.2.2.2.2.2.2.2.2.2.1 s.2.2.2.2.2.2.2.2.2.2.2.2.2.2.2.2.2.2.2.1 s.2.2.2.2.2.2.2.2.2.2.2.2.2.2.2.2.2.2.2.2.1 s.2.2.2.2.2.2.2.2.2.2.2.2.2.2.2.2.2.2.2.2.2.1 s.2.2.2.2.2.2.2.2.2.2.2.2.2.2.2.2.2.2.2.2.2.2.1 s.2.2.2.2.2.2.2.2.2.2.2.2.2.2.2.2.2.2.2.2.2.2.2.1 s.2.2.2.2.2.2.2.2.2.2.2.2.2.2.2.2.2.2.2.2.2.2.2.2.1 s.2.2.2.2.2.2.2.2.2.2.2.2.2.2.2.2.2.2.2.2.2.2.2.2.2.1 s.2.2.2.2.2.2.2.2.2.2.2.2.2.2.2.2.2.2.2.2.2.2.2.2.2.2.1 s.2.2.2.2.2.2.2.2.2.2.2.2.2.2.2.2.2.2.2.2.2.2.2.2.2.2.2.1 s.2.2.2.2.2.2.2.2.2.2.2.2.2.2.2.2.2.2.2.2.2.2.2.2.2.2.2.2.1 s.2.2.2.2.2.2.2.2.2.2.2.2.2.2.2.2.2.2.2.2.2.2.2.2.2.2.2.2.2) (0, p0.Ins, p0.Defs, p0.Chans, p0.Main, p0.Stmts, p1_0, p1_1, p1_3, p1_4, p1_5, p1_6, p1_7, p1_8, p1_9, p1_10, (w64 (p1_1 + 1)), 0, y14.A, 0, 0, 0, 0, 0, 0, false, y13.most, ([] : (List Int)), ([] : (List Int)), ([] : (List T_api_Alt))))
noncomputable def X_run_Step (p0 : T_api_Code) (p1_0 : Int) (p1_1 : Int) (p1_3 : Int) (p1_4 : Int) (p1_5 : Int) (p1_6 : Int) (p1_7 : Int) (p1_8 : Int) (p1_9 : Int) (p1_10 : (List T_api_Alt)) (o0 : (List Int)) : Option (T_api_Effect) :=
  cond (p1_4 != 0) (X_run_Step_J1 p0 p1_0 p1_1 p1_3 p1_4 p1_5 p1_6 p1_7 p1_8 p1_9 p1_10 o0 true) ((X_code_Stmt p0 p1_1).bind fun y267 => X_run_Step_J1 p0 p1_0 p1_1 p1_3 p1_4 p1_5 p1_6 p1_7 p1_8 p1_9 p1_10 o0 (decide (y267 < 0)))
noncomputable def X_slices_Equal_int_int_L1 (p0 : (List Int)) (p1 : (List Int)) (x22 : Int) : Option ((Int) ⊕ (Bool)) :=
  cond (decide (x22 < ((p0).length : Int))) ((lAt p0 x22).bind fun y34 => (lAt p1 x22).bind fun y35 => cond (y34 != y35) ((some false).map Sum.inr) (some (.inl (w64 (x22 + 1))))) ((some true).map Sum.inr)
noncomputable def X_slices_Equal_int_int (p0 : (List Int)) (p1 : (List Int)) : Option (Bool) :=
  cond (((p0).length : Int) != ((p1).length : Int)) (some false) (Loopx (fun s : (Int) => X_slices_Equal_int_int_L1 p0 p1 s) 0)
noncomputable def X_slices_Equal_retrace_api_Alt_retrace_api_Alt_L1 (p0 : (List T_api_Alt)) (p1 : (List T_api_Alt)) (x22 : Int) : Option ((Int) ⊕ (Bool)) :=
  cond (decide (x22 < ((p0).length : Int))) ((lAt p0 x22).bind fun y34 => (lAt p1 x22).bind fun y35 => cond (!((y34.Kind == y35.Kind) && ((y34.Chan == y35.Chan) && ((y34.Val == y35.Val) && ((y34.Slot == y35.Slot) && ((y34.Goto == y35.Goto) && true)))))) ((some false).map Sum.inr) (some (.inl (w64 (x22 + 1))))) ((some true).map Sum.inr)
noncomputable def X_slices_Equal_retrace_api_Alt_retrace_api_Alt (p0 : (List T_api_Alt)) (p1 : (List T_api_Alt)) : Option (Bool) :=
  cond (((p0).length : Int) != ((p1).length : Int)) (some false) (Loopx (fun s : (Int) => X_slices_Equal_retrace_api_Alt_retrace_api_Alt_L1 p0 p1 s) 0)
noncomputable def X_run_Same_J1 (x12 : Bool) : Option (Bool) :=
  some x12
noncomputable def X_run_Same (p0 : T_api_Effect) (p1 : T_api_Effect) : Option (Bool) :=
  cond (p0.Kind == p1.Kind) (cond (p0.Stmt == p1.Stmt) (cond (p0.At == p1.At) (cond (p0.Chan == p1.Chan) (cond (p0.Val == p1.Val) (cond (p0.Slot == p1.Slot) (cond (p0.Def == p1.Def) (cond (p0.Fault == p1.Fault) ((X_slices_Equal_int_int p0.Args p1.Args).bind fun y21 => cond y21 ((X_slices_Equal_retrace_api_Alt_retrace_api_Alt p0.Alts p1.Alts).bind fun y23 => X_run_Same_J1 y23) (X_run_Same_J1 false)) (X_run_Same_J1 false)) (X_run_Same_J1 false)) (X_run_Same_J1 false)) (X_run_Same_J1 false)) (X_run_Same_J1 false)) (X_run_Same_J1 false)) (X_run_Same_J1 false)) (X_run_Same_J1 false)
noncomputable def X_retracelaw24_live_J1 (x9 : Bool) : Option (Bool) :=
  some x9
noncomputable def X_retracelaw24_live  : Option (Bool) :=
  (X_retraceref19_Text (⟨#[109, 97, 105, 110, 32, 123, 32, 118, 97, 114, 32, 120, 32, 61, 32, 49, 32, 47, 32, 48, 59, 32, 125]⟩ : ByteArray)).bind fun y2 => (X_run_Step y2.C 0 0 1 0 0 0 0 0 0 ([] : List T_api_Alt) ([0])).bind fun y4 => cond (y4.Kind == 11) (cond (y4.Fault == 1) (cond (y4.Stmt == 0) ((X_run_Same y4 y4).bind fun y13 => X_retracelaw24_live_J1 y13) (X_retracelaw24_live_J1 false)) (X_retracelaw24_live_J1 false)) (X_retracelaw24_live_J1 false)
theorem LE_retraceref19_Text (p0 : ByteArray) : Le (X_retraceref19_Text p0) (F_retraceref19_Text p0) := by
  unfold X_retraceref19_Text F_retraceref19_Text
  repeat' with_reducible first
    | exact Le.non _
    | exact Le.rf _
    | refine Le.grd ?_
    | refine Le.bind ?_ (fun _ => ?_)
    | refine Le.cond ?_ ?_
    | refine Le.map ?_
    | refine Le.elim (fun _ => ?_) (fun _ => ?_)
    | refine Le.lt (fun _ => ?_)
    | refine Le.loop (fun _ => ?_)
    | refine Le.loopF (fun _ => ?_)
theorem LE_code_Stmt_J1 (p0 : T_api_Code) (p1 : Int) (x12 : Bool) : Le (X_code_Stmt_J1 p0 p1 x12) (F_code_Stmt_J1 p0 p1 x12) := by
  unfold X_code_Stmt_J1 F_code_Stmt_J1
  repeat' with_reducible first
    | exact Le.non _
    | exact Le.rf _
    | refine Le.grd ?_
    | refine Le.bind ?_ (fun _ => ?_)
    | refine Le.cond ?_ ?_
    | refine Le.map ?_
    | refine Le.elim (fun _ => ?_) (fun _ => ?_)
    | refine Le.lt (fun _ => ?_)
    | refine Le.loop (fun _ => ?_)
    | refine Le.loopF (fun _ => ?_)
theorem LE_code_Stmt (p0 : T_api_Code) (p1 : Int) : Le (X_code_Stmt p0 p1) (F_code_Stmt p0 p1) := by
  unfold X_code_Stmt F_code_Stmt
  repeat' with_reducible first
    | apply LE_code_Stmt_J1
    | exact Le.non _
    | exact Le.rf _
    | refine Le.grd ?_
    | refine Le.bind ?_ (fun _ => ?_)
    | refine Le.cond ?_ ?_
    | refine Le.map ?_
    | refine Le.elim (fun _ => ?_) (fun _ => ?_)
    | refine Le.lt (fun _ => ?_)
    | refine Le.loop (fun _ => ?_)
    | refine Le.loopF (fun _ => ?_)
theorem LE_stack_New_int (p0 : Int) : Le (X_stack_New_int p0) (F_stack_New_int p0) := by
  unfold X_stack_New_int F_stack_New_int
  repeat' with_reducible first
    | exact Le.non _
    | exact Le.rf _
    | refine Le.grd ?_
    | refine Le.bind ?_ (fun _ => ?_)
    | refine Le.cond ?_ ?_
    | refine Le.map ?_
    | refine Le.elim (fun _ => ?_) (fun _ => ?_)
    | refine Le.lt (fun _ => ?_)
    | refine Le.loop (fun _ => ?_)
    | refine Le.loopF (fun _ => ?_)
theorem LE_stack_Stack_int_Room (o0 : T_stack_Stack_int_) : Le (X_stack_Stack_int_Room o0) (F_stack_Stack_int_Room o0) := by
  unfold X_stack_Stack_int_Room F_stack_Stack_int_Room
  repeat' with_reducible first
    | exact Le.non _
    | exact Le.rf _
    | refine Le.grd ?_
    | refine Le.bind ?_ (fun _ => ?_)
    | refine Le.cond ?_ ?_
    | refine Le.map ?_
    | refine Le.elim (fun _ => ?_) (fun _ => ?_)
    | refine Le.lt (fun _ => ?_)
    | refine Le.loop (fun _ => ?_)
    | refine Le.loopF (fun _ => ?_)
theorem LE_stack_Stack_int_Push (p1 : Int) (o0 : T_stack_Stack_int_) : Le (X_stack_Stack_int_Push p1 o0) (F_stack_Stack_int_Push p1 o0) := by
  unfold X_stack_Stack_int_Push F_stack_Stack_int_Push
  repeat' with_reducible first
    | apply LE_stack_Stack_int_Room
    | exact Le.non _
    | exact Le.rf _
    | refine Le.grd ?_
    | refine Le.bind ?_ (fun _ => ?_)
    | refine Le.cond ?_ ?_
    | refine Le.map ?_
    | refine Le.elim (fun _ => ?_) (fun _ => ?_)
    | refine Le.lt (fun _ => ?_)
    | refine Le.loop (fun _ => ?_)
    | refine Le.loopF (fun _ => ?_)
theorem LE_run_runner_end (p1 : Int) (p2 : Int) (o0_0 : (List T_api_Ins)) (o0_1 : (List T_api_Def)) (o0_2 : (List T_api_Chan)) (o0_3 : Int) (o0_4 : Int) (o0_5 : Int) (o0_6 : Int) (o0_8 : Int) (o0_9 : Int) (o0_10 : Int) (o0_11 : Int) (o0_12 : Int) (o0_13 : Int) (o0_14 : Int) (o0_15 : (List T_api_Alt)) (o0_17 : Int) (o0_18 : Int) (o0_19 : Int) (o0_20 : Int) (o0_21 : Int) (o0_22 : Int) (o0_23 : Int) (o0_24 : Int) (o0_27 : Int) (o0_28 : Bool) (o2 : T_stack_Stack_int_) (o1 : (List Int)) (o4 : (List Int)) (o5 : (List T_api_Alt)) : Le (X_run_runner_end p1 p2 o0_0 o0_1 o0_2 o0_3 o0_4 o0_5 o0_6 o0_8 o0_9 o0_10 o0_11 o0_12 o0_13 o0_14 o0_15 o0_17 o0_18 o0_19 o0_20 o0_21 o0_22 o0_23 o0_24 o0_27 o0_28 o2 o1 o4 o5) (F_run_runner_end p1 p2 o0_0 o0_1 o0_2 o0_3 o0_4 o0_5 o0_6 o0_8 o0_9 o0_10 o0_11 o0_12 o0_13 o0_14 o0_15 o0_17 o0_18 o0_19 o0_20 o0_21 o0_22 o0_23 o0_24 o0_27 o0_28 o2 o1 o4 o5) := by
  unfold X_run_runner_end F_run_runner_end
  repeat' with_reducible first
    | exact Le.non _
    | exact Le.rf _
    | refine Le.grd ?_
    | refine Le.bind ?_ (fun _ => ?_)
    | refine Le.cond ?_ ?_
    | refine Le.map ?_
    | refine Le.elim (fun _ => ?_) (fun _ => ?_)
    | refine Le.lt (fun _ => ?_)
    | refine Le.loop (fun _ => ?_)
    | refine Le.loopF (fun _ => ?_)
theorem LE_run_runner_fault (p1 : Int) (o0_0 : (List T_api_Ins)) (o0_1 : (List T_api_Def)) (o0_2 : (List T_api_Chan)) (o0_3 : Int) (o0_4 : Int) (o0_5 : Int) (o0_6 : Int) (o0_8 : Int) (o0_9 : Int) (o0_10 : Int) (o0_11 : Int) (o0_12 : Int) (o0_13 : Int) (o0_14 : Int) (o0_15 : (List T_api_Alt)) (o0_17 : Int) (o0_18 : Int) (o0_19 : Int) (o0_20 : Int) (o0_21 : Int) (o0_22 : Int) (o0_23 : Int) (o0_24 : Int) (o0_27 : Int) (o0_28 : Bool) (o2 : T_stack_Stack_int_) (o1 : (List Int)) (o4 : (List Int)) (o5 : (List T_api_Alt)) : Le (X_run_runner_fault p1 o0_0 o0_1 o0_2 o0_3 o0_4 o0_5 o0_6 o0_8 o0_9 o0_10 o0_11 o0_12 o0_13 o0_14 o0_15 o0_17 o0_18 o0_19 o0_20 o0_21 o0_22 o0_23 o0_24 o0_27 o0_28 o2 o1 o4 o5) (F_run_runner_fault p1 o0_0 o0_1 o0_2 o0_3 o0_4 o0_5 o0_6 o0_8 o0_9 o0_10 o0_11 o0_12 o0_13 o0_14 o0_15 o0_17 o0_18 o0_19 o0_20 o0_21 o0_22 o0_23 o0_24 o0_27 o0_28 o2 o1 o4 o5) := by
  unfold X_run_runner_fault F_run_runner_fault
  repeat' with_reducible first
    | apply LE_run_runner_end
    | exact Le.non _
    | exact Le.rf _
    | refine Le.grd ?_
    | refine Le.bind ?_ (fun _ => ?_)
    | refine Le.cond ?_ ?_
    | refine Le.map ?_
    | refine Le.elim (fun _ => ?_) (fun _ => ?_)
    | refine Le.lt (fun _ => ?_)
    | refine Le.loop (fun _ => ?_)
    | refine Le.loopF (fun _ => ?_)
theorem LE_run_runner_lay_J1 (x1 : Int) (x41 : (List T_api_Ins)) (x42 : (List T_api_Def)) (x43 : (List T_api_Chan)) (x44 : Int) (x45 : Int) (x46 : Int) (x47 : Int) (x48 : Int) (x49 : Int) (x50 : Int) (x51 : Int) (x52 : Int) (x53 : Int) (x54 : Int) (x55 : (List T_api_Alt)) (x56 : Int) (x57 : Int) (x58 : Int) (x59 : Int) (x60 : Int) (x61 : Int) (x62 : Int) (x63 : Int) (x64 : Int) (x65 : Bool) (x66 : Int) (x67 : (List Int)) (x68 : (List Int)) (x69 : (List T_api_Alt)) : Le (X_run_runner_lay_J1 x1 x41 x42 x43 x44 x45 x46 x47 x48 x49 x50 x51 x52 x53 x54 x55 x56 x57 x58 x59 x60 x61 x62 x63 x64 x65 x66 x67 x68 x69) (F_run_runner_lay_J1 x1 x41 x42 x43 x44 x45 x46 x47 x48 x49 x50 x51 x52 x53 x54 x55 x56 x57 x58 x59 x60 x61 x62 x63 x64 x65 x66 x67 x68 x69) := by
  unfold X_run_runner_lay_J1 F_run_runner_lay_J1
  repeat' with_reducible first
    | exact Le.non _
    | exact Le.rf _
    | refine Le.grd ?_
    | refine Le.bind ?_ (fun _ => ?_)
    | refine Le.cond ?_ ?_
    | refine Le.map ?_
    | refine Le.elim (fun _ => ?_) (fun _ => ?_)
    | refine Le.lt (fun _ => ?_)
    | refine Le.loop (fun _ => ?_)
    | refine Le.loopF (fun _ => ?_)
theorem LE_run_runner_lay_L2 (o1 : (List Int)) (o6 : (List Int)) (x1 : Int) (x2 : (List T_api_Ins)) (x3 : (List T_api_Def)) (x4 : (List T_api_Chan)) (x5 : Int) (x6 : Int) (x7 : Int) (x8 : Int) (x9 : Int) (x10 : Int) (x11 : Int) (x12 : Int) (x13 : Int) (x14 : Int) (x15 : Int) (x16 : (List T_api_Alt)) (x17 : Int) (x18 : Int) (x19 : Int) (x20 : Int) (x21 : Int) (x22 : Int) (x23 : Int) (x24 : Int) (x25 : Int) (x26 : Bool) (x27 : Int) (x28 : (List Int)) (x29 : (List Int)) (x30 : (List T_api_Alt)) : Le (X_run_runner_lay_L2 o1 o6 x1 x2 x3 x4 x5 x6 x7 x8 x9 x10 x11 x12 x13 x14 x15 x16 x17 x18 x19 x20 x21 x22 x23 x24 x25 x26 x27 x28 x29 x30) (F_run_runner_lay_L2 o1 o6 x1 x2 x3 x4 x5 x6 x7 x8 x9 x10 x11 x12 x13 x14 x15 x16 x17 x18 x19 x20 x21 x22 x23 x24 x25 x26 x27 x28 x29 x30) := by
  unfold X_run_runner_lay_L2 F_run_runner_lay_L2
  repeat' with_reducible first
    | apply LE_stack_Stack_int_Push
    | apply LE_run_runner_fault
    | apply LE_run_runner_lay_J1
    | exact Le.non _
    | exact Le.rf _
    | refine Le.grd ?_
    | refine Le.bind ?_ (fun _ => ?_)
    | refine Le.cond ?_ ?_
    | refine Le.map ?_
    | refine Le.elim (fun _ => ?_) (fun _ => ?_)
    | refine Le.lt (fun _ => ?_)
    | refine Le.loop (fun _ => ?_)
    | refine Le.loopF (fun _ => ?_)
theorem LE_run_runner_lay (o0_0 : (List T_api_Ins)) (o0_1 : (List T_api_Def)) (o0_2 : (List T_api_Chan)) (o0_3 : Int) (o0_4 : Int) (o0_5 : Int) (o0_6 : Int) (o0_8 : Int) (o0_9 : Int) (o0_10 : Int) (o0_11 : Int) (o0_12 : Int) (o0_13 : Int) (o0_14 : Int) (o0_15 : (List T_api_Alt)) (o0_17 : Int) (o0_18 : Int) (o0_19 : Int) (o0_20 : Int) (o0_21 : Int) (o0_22 : Int) (o0_23 : Int) (o0_24 : Int) (o0_27 : Int) (o0_28 : Bool) (o2 : T_stack_Stack_int_) (o1 : (List Int)) (o4 : (List Int)) (o5 : (List T_api_Alt)) (o6 : (List Int)) : Le (X_run_runner_lay o0_0 o0_1 o0_2 o0_3 o0_4 o0_5 o0_6 o0_8 o0_9 o0_10 o0_11 o0_12 o0_13 o0_14 o0_15 o0_17 o0_18 o0_19 o0_20 o0_21 o0_22 o0_23 o0_24 o0_27 o0_28 o2 o1 o4 o5 o6) (F_run_runner_lay o0_0 o0_1 o0_2 o0_3 o0_4 o0_5 o0_6 o0_8 o0_9 o0_10 o0_11 o0_12 o0_13 o0_14 o0_15 o0_17 o0_18 o0_19 o0_20 o0_21 o0_22 o0_23 o0_24 o0_27 o0_28 o2 o1 o4 o5 o6) := by
  unfold X_run_runner_lay F_run_runner_lay
  repeat' with_reducible first
    | apply LE_run_runner_lay_L2
    | exact Le.non _
    | exact Le.rf _
    | refine Le.grd ?_
    | refine Le.bind ?_ (fun _ => ?_)
    | refine Le.cond ?_ ?_
    | refine Le.map ?_
    | refine Le.elim (fun _ => ?_) (fun _ => ?_)
    | refine Le.lt (fun _ => ?_)
    | refine Le.loop (fun _ => ?_)
    | refine Le.loopF (fun _ => ?_)
theorem LE_run_runner_slot_J1 (p1 : Int) (o1 : (List Int)) (x6 : Bool) : Le (X_run_runner_slot_J1 p1 o1 x6) (F_run_runner_slot_J1 p1 o1 x6) := by
  unfold X_run_runner_slot_J1 F_run_runner_slot_J1
  repeat' with_reducible first
    | exact Le.non _
    | exact Le.rf _
    | refine Le.grd ?_
    | refine Le.bind ?_ (fun _ => ?_)
    | refine Le.cond ?_ ?_
    | refine Le.map ?_
    | refine Le.elim (fun _ => ?_) (fun _ => ?_)
    | refine Le.lt (fun _ => ?_)
    | refine Le.loop (fun _ => ?_)
    | refine Le.loopF (fun _ => ?_)
theorem LE_run_runner_slot (p1 : Int) (o0_0 : (List T_api_Ins)) (o0_1 : (List T_api_Def)) (o0_2 : (List T_api_Chan)) (o0_3 : Int) (o0_4 : Int) (o0_5 : Int) (o0_6 : Int) (o0_8 : Int) (o0_9 : Int) (o0_10 : Int) (o0_11 : Int) (o0_12 : Int) (o0_13 : Int) (o0_14 : Int) (o0_15 : (List T_api_Alt)) (o0_17 : Int) (o0_18 : Int) (o0_19 : Int) (o0_20 : Int) (o0_21 : Int) (o0_22 : Int) (o0_23 : Int) (o0_24 : Int) (o0_27 : Int) (o0_28 : Bool) (o2 : T_stack_Stack_int_) (o1 : (List Int)) (o4 : (List Int)) (o5 : (List T_api_Alt)) : Le (X_run_runner_slot p1 o0_0 o0_1 o0_2 o0_3 o0_4 o0_5 o0_6 o0_8 o0_9 o0_10 o0_11 o0_12 o0_13 o0_14 o0_15 o0_17 o0_18 o0_19 o0_20 o0_21 o0_22 o0_23 o0_24 o0_27 o0_28 o2 o1 o4 o5) (F_run_runner_slot p1 o0_0 o0_1 o0_2 o0_3 o0_4 o0_5 o0_6 o0_8 o0_9 o0_10 o0_11 o0_12 o0_13 o0_14 o0_15 o0_17 o0_18 o0_19 o0_20 o0_21 o0_22 o0_23 o0_24 o0_27 o0_28 o2 o1 o4 o5) := by
  unfold X_run_runner_slot F_run_runner_slot
  repeat' with_reducible first
    | apply LE_run_runner_slot_J1
    | exact Le.non _
    | exact Le.rf _
    | refine Le.grd ?_
    | refine Le.bind ?_ (fun _ => ?_)
    | refine Le.cond ?_ ?_
    | refine Le.map ?_
    | refine Le.elim (fun _ => ?_) (fun _ => ?_)
    | refine Le.lt (fun _ => ?_)
    | refine Le.loop (fun _ => ?_)
    | refine Le.loopF (fun _ => ?_)
theorem LE_arith_Wide_J2 (x13 : Bool) : Le (X_arith_Wide_J2 x13) (F_arith_Wide_J2 x13) := by
  unfold X_arith_Wide_J2 F_arith_Wide_J2
  repeat' with_reducible first
    | exact Le.non _
    | exact Le.rf _
    | refine Le.grd ?_
    | refine Le.bind ?_ (fun _ => ?_)
    | refine Le.cond ?_ ?_
    | refine Le.map ?_
    | refine Le.elim (fun _ => ?_) (fun _ => ?_)
    | refine Le.lt (fun _ => ?_)
    | refine Le.loop (fun _ => ?_)
    | refine Le.loopF (fun _ => ?_)
theorem LE_arith_Wide_J1 (p0 : Int) (x10 : Bool) : Le (X_arith_Wide_J1 p0 x10) (F_arith_Wide_J1 p0 x10) := by
  unfold X_arith_Wide_J1 F_arith_Wide_J1
  repeat' with_reducible first
    | apply LE_arith_Wide_J2
    | exact Le.non _
    | exact Le.rf _
    | refine Le.grd ?_
    | refine Le.bind ?_ (fun _ => ?_)
    | refine Le.cond ?_ ?_
    | refine Le.map ?_
    | refine Le.elim (fun _ => ?_) (fun _ => ?_)
    | refine Le.lt (fun _ => ?_)
    | refine Le.loop (fun _ => ?_)
    | refine Le.loopF (fun _ => ?_)
theorem LE_arith_Wide (p0 : Int) : Le (X_arith_Wide p0) (F_arith_Wide p0) := by
  unfold X_arith_Wide F_arith_Wide
  repeat' with_reducible first
    | apply LE_arith_Wide_J1
    | exact Le.non _
    | exact Le.rf _
    | refine Le.grd ?_
    | refine Le.bind ?_ (fun _ => ?_)
    | refine Le.cond ?_ ?_
    | refine Le.map ?_
    | refine Le.elim (fun _ => ?_) (fun _ => ?_)
    | refine Le.lt (fun _ => ?_)
    | refine Le.loop (fun _ => ?_)
    | refine Le.loopF (fun _ => ?_)
theorem LE_stack_Stack_int_Len (o0 : T_stack_Stack_int_) : Le (X_stack_Stack_int_Len o0) (F_stack_Stack_int_Len o0) := by
  unfold X_stack_Stack_int_Len F_stack_Stack_int_Len
  repeat' with_reducible first
    | exact Le.non _
    | exact Le.rf _
    | refine Le.grd ?_
    | refine Le.bind ?_ (fun _ => ?_)
    | refine Le.cond ?_ ?_
    | refine Le.map ?_
    | refine Le.elim (fun _ => ?_) (fun _ => ?_)
    | refine Le.lt (fun _ => ?_)
    | refine Le.loop (fun _ => ?_)
    | refine Le.loopF (fun _ => ?_)
theorem LE_slices_Clone_int_int (p0 : (List Int)) : Le (X_slices_Clone_int_int p0) (F_slices_Clone_int_int p0) := by
  unfold X_slices_Clone_int_int F_slices_Clone_int_int
  repeat' with_reducible first
    | exact Le.non _
    | exact Le.rf _
    | refine Le.grd ?_
    | refine Le.bind ?_ (fun _ => ?_)
    | refine Le.cond ?_ ?_
    | refine Le.map ?_
    | refine Le.elim (fun _ => ?_) (fun _ => ?_)
    | refine Le.lt (fun _ => ?_)
    | refine Le.loop (fun _ => ?_)
    | refine Le.loopF (fun _ => ?_)
theorem LE_stack_Stack_int_Take_J2 (p1 : Int) (o0 : T_stack_Stack_int_) (y2 : Int) (x15 : (List Int)) : Le (X_stack_Stack_int_Take_J2 p1 o0 y2 x15) (F_stack_Stack_int_Take_J2 p1 o0 y2 x15) := by
  unfold X_stack_Stack_int_Take_J2 F_stack_Stack_int_Take_J2
  repeat' with_reducible first
    | exact Le.non _
    | exact Le.rf _
    | refine Le.grd ?_
    | refine Le.bind ?_ (fun _ => ?_)
    | refine Le.cond ?_ ?_
    | refine Le.map ?_
    | refine Le.elim (fun _ => ?_) (fun _ => ?_)
    | refine Le.lt (fun _ => ?_)
    | refine Le.loop (fun _ => ?_)
    | refine Le.loopF (fun _ => ?_)
theorem LE_stack_Stack_int_Take_J1 (p1 : Int) (o0 : T_stack_Stack_int_) (y2 : Int) (x8 : Bool) : Le (X_stack_Stack_int_Take_J1 p1 o0 y2 x8) (F_stack_Stack_int_Take_J1 p1 o0 y2 x8) := by
  unfold X_stack_Stack_int_Take_J1 F_stack_Stack_int_Take_J1
  repeat' with_reducible first
    | apply LE_slices_Clone_int_int
    | apply LE_stack_Stack_int_Take_J2
    | exact Le.non _
    | exact Le.rf _
    | refine Le.grd ?_
    | refine Le.bind ?_ (fun _ => ?_)
    | refine Le.cond ?_ ?_
    | refine Le.map ?_
    | refine Le.elim (fun _ => ?_) (fun _ => ?_)
    | refine Le.lt (fun _ => ?_)
    | refine Le.loop (fun _ => ?_)
    | refine Le.loopF (fun _ => ?_)
theorem LE_stack_Stack_int_Take (p1 : Int) (o0 : T_stack_Stack_int_) : Le (X_stack_Stack_int_Take p1 o0) (F_stack_Stack_int_Take p1 o0) := by
  unfold X_stack_Stack_int_Take F_stack_Stack_int_Take
  repeat' with_reducible first
    | apply LE_stack_Stack_int_Len
    | apply LE_stack_Stack_int_Take_J1
    | exact Le.non _
    | exact Le.rf _
    | refine Le.grd ?_
    | refine Le.bind ?_ (fun _ => ?_)
    | refine Le.cond ?_ ?_
    | refine Le.map ?_
    | refine Le.elim (fun _ => ?_) (fun _ => ?_)
    | refine Le.lt (fun _ => ?_)
    | refine Le.loop (fun _ => ?_)
    | refine Le.loopF (fun _ => ?_)
theorem LE_arith_bit (p0 : Bool) : Le (X_arith_bit p0) (F_arith_bit p0) := by
  unfold X_arith_bit F_arith_bit
  repeat' with_reducible first
    | exact Le.non _
    | exact Le.rf _
    | refine Le.grd ?_
    | refine Le.bind ?_ (fun _ => ?_)
    | refine Le.cond ?_ ?_
    | refine Le.map ?_
    | refine Le.elim (fun _ => ?_) (fun _ => ?_)
    | refine Le.lt (fun _ => ?_)
    | refine Le.loop (fun _ => ?_)
    | refine Le.loopF (fun _ => ?_)
theorem LE_arith_compared_J1 (x20 : Int) (x21 : Int) (x22 : Int) (x23 : Int) (x24 : Int) (x25 : Int) (x26 : Int) (x27 : Int) (x28 : Int) : Le (X_arith_compared_J1 x20 x21 x22 x23 x24 x25 x26 x27 x28) (F_arith_compared_J1 x20 x21 x22 x23 x24 x25 x26 x27 x28) := by
  unfold X_arith_compared_J1 F_arith_compared_J1
  repeat' with_reducible first
    | exact Le.non _
    | exact Le.rf _
    | refine Le.grd ?_
    | refine Le.bind ?_ (fun _ => ?_)
    | refine Le.cond ?_ ?_
    | refine Le.map ?_
    | refine Le.elim (fun _ => ?_) (fun _ => ?_)
    | refine Le.lt (fun _ => ?_)
    | refine Le.loop (fun _ => ?_)
    | refine Le.loopF (fun _ => ?_)
theorem LE_arith_compared (p0 : Int) (p1 : Int) : Le (X_arith_compared p0 p1) (F_arith_compared p0 p1) := by
  unfold X_arith_compared F_arith_compared
  repeat' with_reducible first
    | apply LE_arith_bit
    | apply LE_arith_compared_J1
    | exact Le.non _
    | exact Le.rf _
    | refine Le.grd ?_
    | refine Le.bind ?_ (fun _ => ?_)
    | refine Le.cond ?_ ?_
    | refine Le.map ?_
    | refine Le.elim (fun _ => ?_) (fun _ => ?_)
    | refine Le.lt (fun _ => ?_)
    | refine Le.loop (fun _ => ?_)
    | refine Le.loopF (fun _ => ?_)
theorem LE_arith_Apply_J1 (p0 : Int) (p1 : Int) (p2 : Int) (x24 : Bool) : Le (X_arith_Apply_J1 p0 p1 p2 x24) (F_arith_Apply_J1 p0 p1 p2 x24) := by
  unfold X_arith_Apply_J1 F_arith_Apply_J1
  repeat' with_reducible first
    | apply LE_arith_compared
    | exact Le.non _
    | exact Le.rf _
    | refine Le.grd ?_
    | refine Le.bind ?_ (fun _ => ?_)
    | refine Le.cond ?_ ?_
    | refine Le.map ?_
    | refine Le.elim (fun _ => ?_) (fun _ => ?_)
    | refine Le.lt (fun _ => ?_)
    | refine Le.loop (fun _ => ?_)
    | refine Le.loopF (fun _ => ?_)
theorem LE_arith_Apply (p0 : Int) (p1 : Int) (p2 : Int) : Le (X_arith_Apply p0 p1 p2) (F_arith_Apply p0 p1 p2) := by
  unfold X_arith_Apply F_arith_Apply
  repeat' with_reducible first
    | apply LE_arith_Apply_J1
    | exact Le.non _
    | exact Le.rf _
    | refine Le.grd ?_
    | refine Le.bind ?_ (fun _ => ?_)
    | refine Le.cond ?_ ?_
    | refine Le.map ?_
    | refine Le.elim (fun _ => ?_) (fun _ => ?_)
    | refine Le.lt (fun _ => ?_)
    | refine Le.loop (fun _ => ?_)
    | refine Le.loopF (fun _ => ?_)
theorem LE_run_runner_reckon (p1 : Int) (o0_0 : (List T_api_Ins)) (o0_1 : (List T_api_Def)) (o0_2 : (List T_api_Chan)) (o0_3 : Int) (o0_4 : Int) (o0_5 : Int) (o0_6 : Int) (o0_8 : Int) (o0_9 : Int) (o0_10 : Int) (o0_11 : Int) (o0_12 : Int) (o0_13 : Int) (o0_14 : Int) (o0_15 : (List T_api_Alt)) (o0_17 : Int) (o0_18 : Int) (o0_19 : Int) (o0_20 : Int) (o0_21 : Int) (o0_22 : Int) (o0_23 : Int) (o0_24 : Int) (o0_27 : Int) (o0_28 : Bool) (o2 : T_stack_Stack_int_) (o1 : (List Int)) (o4 : (List Int)) (o5 : (List T_api_Alt)) : Le (X_run_runner_reckon p1 o0_0 o0_1 o0_2 o0_3 o0_4 o0_5 o0_6 o0_8 o0_9 o0_10 o0_11 o0_12 o0_13 o0_14 o0_15 o0_17 o0_18 o0_19 o0_20 o0_21 o0_22 o0_23 o0_24 o0_27 o0_28 o2 o1 o4 o5) (F_run_runner_reckon p1 o0_0 o0_1 o0_2 o0_3 o0_4 o0_5 o0_6 o0_8 o0_9 o0_10 o0_11 o0_12 o0_13 o0_14 o0_15 o0_17 o0_18 o0_19 o0_20 o0_21 o0_22 o0_23 o0_24 o0_27 o0_28 o2 o1 o4 o5) := by
  unfold X_run_runner_reckon F_run_runner_reckon
  repeat' with_reducible first
    | apply LE_arith_Wide
    | apply LE_stack_Stack_int_Take
    | apply LE_arith_Apply
    | apply LE_run_runner_fault
    | apply LE_run_runner_lay
    | exact Le.non _
    | exact Le.rf _
    | refine Le.grd ?_
    | refine Le.bind ?_ (fun _ => ?_)
    | refine Le.cond ?_ ?_
    | refine Le.map ?_
    | refine Le.elim (fun _ => ?_) (fun _ => ?_)
    | refine Le.lt (fun _ => ?_)
    | refine Le.loop (fun _ => ?_)
    | refine Le.loopF (fun _ => ?_)
theorem LE_run_runner_jump (p1 : Int) (p2 : Bool) (o0_0 : (List T_api_Ins)) (o0_1 : (List T_api_Def)) (o0_2 : (List T_api_Chan)) (o0_3 : Int) (o0_4 : Int) (o0_5 : Int) (o0_6 : Int) (o0_8 : Int) (o0_9 : Int) (o0_10 : Int) (o0_11 : Int) (o0_12 : Int) (o0_13 : Int) (o0_14 : Int) (o0_15 : (List T_api_Alt)) (o0_17 : Int) (o0_18 : Int) (o0_19 : Int) (o0_20 : Int) (o0_21 : Int) (o0_22 : Int) (o0_23 : Int) (o0_24 : Int) (o0_27 : Int) (o0_28 : Bool) (o2 : T_stack_Stack_int_) (o1 : (List Int)) (o4 : (List Int)) (o5 : (List T_api_Alt)) : Le (X_run_runner_jump p1 p2 o0_0 o0_1 o0_2 o0_3 o0_4 o0_5 o0_6 o0_8 o0_9 o0_10 o0_11 o0_12 o0_13 o0_14 o0_15 o0_17 o0_18 o0_19 o0_20 o0_21 o0_22 o0_23 o0_24 o0_27 o0_28 o2 o1 o4 o5) (F_run_runner_jump p1 p2 o0_0 o0_1 o0_2 o0_3 o0_4 o0_5 o0_6 o0_8 o0_9 o0_10 o0_11 o0_12 o0_13 o0_14 o0_15 o0_17 o0_18 o0_19 o0_20 o0_21 o0_22 o0_23 o0_24 o0_27 o0_28 o2 o1 o4 o5) := by
  unfold X_run_runner_jump F_run_runner_jump
  repeat' with_reducible first
    | exact Le.non _
    | exact Le.rf _
    | refine Le.grd ?_
    | refine Le.bind ?_ (fun _ => ?_)
    | refine Le.cond ?_ ?_
    | refine Le.map ?_
    | refine Le.elim (fun _ => ?_) (fun _ => ?_)
    | refine Le.lt (fun _ => ?_)
    | refine Le.loop (fun _ => ?_)
    | refine Le.loopF (fun _ => ?_)
theorem LE_stack_Stack_int_Pop (o0 : T_stack_Stack_int_) : Le (X_stack_Stack_int_Pop o0) (F_stack_Stack_int_Pop o0) := by
  unfold X_stack_Stack_int_Pop F_stack_Stack_int_Pop
  repeat' with_reducible first
    | apply LE_stack_Stack_int_Take
    | exact Le.non _
    | exact Le.rf _
    | refine Le.grd ?_
    | refine Le.bind ?_ (fun _ => ?_)
    | refine Le.cond ?_ ?_
    | refine Le.map ?_
    | refine Le.elim (fun _ => ?_) (fun _ => ?_)
    | refine Le.lt (fun _ => ?_)
    | refine Le.loop (fun _ => ?_)
    | refine Le.loopF (fun _ => ?_)
theorem LE_run_runner_take (o0_0 : (List T_api_Ins)) (o0_1 : (List T_api_Def)) (o0_2 : (List T_api_Chan)) (o0_3 : Int) (o0_4 : Int) (o0_5 : Int) (o0_6 : Int) (o0_8 : Int) (o0_9 : Int) (o0_10 : Int) (o0_11 : Int) (o0_12 : Int) (o0_13 : Int) (o0_14 : Int) (o0_15 : (List T_api_Alt)) (o0_17 : Int) (o0_18 : Int) (o0_19 : Int) (o0_20 : Int) (o0_21 : Int) (o0_22 : Int) (o0_23 : Int) (o0_24 : Int) (o0_27 : Int) (o0_28 : Bool) (o2 : T_stack_Stack_int_) (o1 : (List Int)) (o4 : (List Int)) (o5 : (List T_api_Alt)) : Le (X_run_runner_take o0_0 o0_1 o0_2 o0_3 o0_4 o0_5 o0_6 o0_8 o0_9 o0_10 o0_11 o0_12 o0_13 o0_14 o0_15 o0_17 o0_18 o0_19 o0_20 o0_21 o0_22 o0_23 o0_24 o0_27 o0_28 o2 o1 o4 o5) (F_run_runner_take o0_0 o0_1 o0_2 o0_3 o0_4 o0_5 o0_6 o0_8 o0_9 o0_10 o0_11 o0_12 o0_13 o0_14 o0_15 o0_17 o0_18 o0_19 o0_20 o0_21 o0_22 o0_23 o0_24 o0_27 o0_28 o2 o1 o4 o5) := by
  unfold X_run_runner_take F_run_runner_take
  repeat' with_reducible first
    | apply LE_stack_Stack_int_Pop
    | exact Le.non _
    | exact Le.rf _
    | refine Le.grd ?_
    | refine Le.bind ?_ (fun _ => ?_)
    | refine Le.cond ?_ ?_
    | refine Le.map ?_
    | refine Le.elim (fun _ => ?_) (fun _ => ?_)
    | refine Le.lt (fun _ => ?_)
    | refine Le.loop (fun _ => ?_)
    | refine Le.loopF (fun _ => ?_)
theorem LE_run_runner_channel_J1 (p1 : T_api_Ins) (o0_0 : (List T_api_Ins)) (o0_1 : (List T_api_Def)) (o0_2 : (List T_api_Chan)) (o0_3 : Int) (o0_4 : Int) (o0_5 : Int) (o0_6 : Int) (o0_8 : Int) (o0_9 : Int) (o0_10 : Int) (o0_11 : Int) (o0_12 : Int) (o0_13 : Int) (o0_14 : Int) (o0_15 : (List T_api_Alt)) (o0_17 : Int) (o0_18 : Int) (o0_19 : Int) (o0_20 : Int) (o0_21 : Int) (o0_22 : Int) (o0_23 : Int) (o0_24 : Int) (o0_27 : Int) (o0_28 : Bool) (o1 : (List Int)) (o4 : (List Int)) (o5 : (List T_api_Alt)) (y8 : Int × T_stack_Stack_int_) (x16 : Bool) : Le (X_run_runner_channel_J1 p1 o0_0 o0_1 o0_2 o0_3 o0_4 o0_5 o0_6 o0_8 o0_9 o0_10 o0_11 o0_12 o0_13 o0_14 o0_15 o0_17 o0_18 o0_19 o0_20 o0_21 o0_22 o0_23 o0_24 o0_27 o0_28 o1 o4 o5 y8 x16) (F_run_runner_channel_J1 p1 o0_0 o0_1 o0_2 o0_3 o0_4 o0_5 o0_6 o0_8 o0_9 o0_10 o0_11 o0_12 o0_13 o0_14 o0_15 o0_17 o0_18 o0_19 o0_20 o0_21 o0_22 o0_23 o0_24 o0_27 o0_28 o1 o4 o5 y8 x16) := by
  unfold X_run_runner_channel_J1 F_run_runner_channel_J1
  repeat' with_reducible first
    | apply LE_run_runner_fault
    | apply LE_run_runner_lay
    | exact Le.non _
    | exact Le.rf _
    | refine Le.grd ?_
    | refine Le.bind ?_ (fun _ => ?_)
    | refine Le.cond ?_ ?_
    | refine Le.map ?_
    | refine Le.elim (fun _ => ?_) (fun _ => ?_)
    | refine Le.lt (fun _ => ?_)
    | refine Le.loop (fun _ => ?_)
    | refine Le.loopF (fun _ => ?_)
theorem LE_run_runner_channel (p1 : T_api_Ins) (o0_0 : (List T_api_Ins)) (o0_1 : (List T_api_Def)) (o0_2 : (List T_api_Chan)) (o0_3 : Int) (o0_4 : Int) (o0_5 : Int) (o0_6 : Int) (o0_8 : Int) (o0_9 : Int) (o0_10 : Int) (o0_11 : Int) (o0_12 : Int) (o0_13 : Int) (o0_14 : Int) (o0_15 : (List T_api_Alt)) (o0_17 : Int) (o0_18 : Int) (o0_19 : Int) (o0_20 : Int) (o0_21 : Int) (o0_22 : Int) (o0_23 : Int) (o0_24 : Int) (o0_27 : Int) (o0_28 : Bool) (o2 : T_stack_Stack_int_) (o1 : (List Int)) (o4 : (List Int)) (o5 : (List T_api_Alt)) : Le (X_run_runner_channel p1 o0_0 o0_1 o0_2 o0_3 o0_4 o0_5 o0_6 o0_8 o0_9 o0_10 o0_11 o0_12 o0_13 o0_14 o0_15 o0_17 o0_18 o0_19 o0_20 o0_21 o0_22 o0_23 o0_24 o0_27 o0_28 o2 o1 o4 o5) (F_run_runner_channel p1 o0_0 o0_1 o0_2 o0_3 o0_4 o0_5 o0_6 o0_8 o0_9 o0_10 o0_11 o0_12 o0_13 o0_14 o0_15 o0_17 o0_18 o0_19 o0_20 o0_21 o0_22 o0_23 o0_24 o0_27 o0_28 o2 o1 o4 o5) := by
  unfold X_run_runner_channel F_run_runner_channel
  repeat' with_reducible first
    | apply LE_run_runner_lay
    | apply LE_run_runner_take
    | apply LE_run_runner_channel_J1
    | exact Le.non _
    | exact Le.rf _
    | refine Le.grd ?_
    | refine Le.bind ?_ (fun _ => ?_)
    | refine Le.cond ?_ ?_
    | refine Le.map ?_
    | refine Le.elim (fun _ => ?_) (fun _ => ?_)
    | refine Le.lt (fun _ => ?_)
    | refine Le.loop (fun _ => ?_)
    | refine Le.loopF (fun _ => ?_)
theorem LE_proc_Chans_L1 (p0 : T_api_Code) (x13 : Int) (x14 : Int) : Le (X_proc_Chans_L1 p0 x13 x14) (F_proc_Chans_L1 p0 x13 x14) := by
  unfold X_proc_Chans_L1 F_proc_Chans_L1
  repeat' with_reducible first
    | exact Le.non _
    | exact Le.rf _
    | refine Le.grd ?_
    | refine Le.bind ?_ (fun _ => ?_)
    | refine Le.cond ?_ ?_
    | refine Le.map ?_
    | refine Le.elim (fun _ => ?_) (fun _ => ?_)
    | refine Le.lt (fun _ => ?_)
    | refine Le.loop (fun _ => ?_)
    | refine Le.loopF (fun _ => ?_)
theorem LE_proc_Chans (p0 : T_api_Code) : Le (X_proc_Chans p0) (F_proc_Chans p0) := by
  unfold X_proc_Chans F_proc_Chans
  repeat' with_reducible first
    | apply LE_proc_Chans_L1
    | exact Le.non _
    | exact Le.rf _
    | refine Le.grd ?_
    | refine Le.bind ?_ (fun _ => ?_)
    | refine Le.cond ?_ ?_
    | refine Le.map ?_
    | refine Le.elim (fun _ => ?_) (fun _ => ?_)
    | refine Le.lt (fun _ => ?_)
    | refine Le.loop (fun _ => ?_)
    | refine Le.loopF (fun _ => ?_)
theorem LE_run_runner_none_J1 (o0_0 : (List T_api_Ins)) (o0_1 : (List T_api_Def)) (o0_2 : (List T_api_Chan)) (o0_3 : Int) (o0_4 : Int) (o0_5 : Int) (o0_6 : Int) (o0_8 : Int) (o0_9 : Int) (o0_10 : Int) (o0_11 : Int) (o0_12 : Int) (o0_13 : Int) (o0_14 : Int) (o0_15 : (List T_api_Alt)) (o0_17 : Int) (o0_18 : Int) (o0_19 : Int) (o0_20 : Int) (o0_21 : Int) (o0_22 : Int) (o0_23 : Int) (o0_24 : Int) (o0_27 : Int) (o0_28 : Bool) (o2 : T_stack_Stack_int_) (o1 : (List Int)) (o4 : (List Int)) (o5 : (List T_api_Alt)) (x9 : Bool) : Le (X_run_runner_none_J1 o0_0 o0_1 o0_2 o0_3 o0_4 o0_5 o0_6 o0_8 o0_9 o0_10 o0_11 o0_12 o0_13 o0_14 o0_15 o0_17 o0_18 o0_19 o0_20 o0_21 o0_22 o0_23 o0_24 o0_27 o0_28 o2 o1 o4 o5 x9) (F_run_runner_none_J1 o0_0 o0_1 o0_2 o0_3 o0_4 o0_5 o0_6 o0_8 o0_9 o0_10 o0_11 o0_12 o0_13 o0_14 o0_15 o0_17 o0_18 o0_19 o0_20 o0_21 o0_22 o0_23 o0_24 o0_27 o0_28 o2 o1 o4 o5 x9) := by
  unfold X_run_runner_none_J1 F_run_runner_none_J1
  repeat' with_reducible first
    | apply LE_run_runner_fault
    | exact Le.non _
    | exact Le.rf _
    | refine Le.grd ?_
    | refine Le.bind ?_ (fun _ => ?_)
    | refine Le.cond ?_ ?_
    | refine Le.map ?_
    | refine Le.elim (fun _ => ?_) (fun _ => ?_)
    | refine Le.lt (fun _ => ?_)
    | refine Le.loop (fun _ => ?_)
    | refine Le.loopF (fun _ => ?_)
theorem LE_run_runner_none (p1 : Int) (o0_0 : (List T_api_Ins)) (o0_1 : (List T_api_Def)) (o0_2 : (List T_api_Chan)) (o0_3 : Int) (o0_4 : Int) (o0_5 : Int) (o0_6 : Int) (o0_8 : Int) (o0_9 : Int) (o0_10 : Int) (o0_11 : Int) (o0_12 : Int) (o0_13 : Int) (o0_14 : Int) (o0_15 : (List T_api_Alt)) (o0_17 : Int) (o0_18 : Int) (o0_19 : Int) (o0_20 : Int) (o0_21 : Int) (o0_22 : Int) (o0_23 : Int) (o0_24 : Int) (o0_27 : Int) (o0_28 : Bool) (o2 : T_stack_Stack_int_) (o1 : (List Int)) (o4 : (List Int)) (o5 : (List T_api_Alt)) : Le (X_run_runner_none p1 o0_0 o0_1 o0_2 o0_3 o0_4 o0_5 o0_6 o0_8 o0_9 o0_10 o0_11 o0_12 o0_13 o0_14 o0_15 o0_17 o0_18 o0_19 o0_20 o0_21 o0_22 o0_23 o0_24 o0_27 o0_28 o2 o1 o4 o5) (F_run_runner_none p1 o0_0 o0_1 o0_2 o0_3 o0_4 o0_5 o0_6 o0_8 o0_9 o0_10 o0_11 o0_12 o0_13 o0_14 o0_15 o0_17 o0_18 o0_19 o0_20 o0_21 o0_22 o0_23 o0_24 o0_27 o0_28 o2 o1 o4 o5) := by
  unfold X_run_runner_none F_run_runner_none
  repeat' with_reducible first
    | apply LE_proc_Chans
    | apply LE_run_runner_none_J1
    | exact Le.non _
    | exact Le.rf _
    | refine Le.grd ?_
    | refine Le.bind ?_ (fun _ => ?_)
    | refine Le.cond ?_ ?_
    | refine Le.map ?_
    | refine Le.elim (fun _ => ?_) (fun _ => ?_)
    | refine Le.lt (fun _ => ?_)
    | refine Le.loop (fun _ => ?_)
    | refine Le.loopF (fun _ => ?_)
theorem LE_code_Settle_J1 (p0 : T_api_Code) (x45 : Int) (x46 : Int) (x79 : Bool) : Le (X_code_Settle_J1 p0 x45 x46 x79) (F_code_Settle_J1 p0 x45 x46 x79) := by
  unfold X_code_Settle_J1 F_code_Settle_J1
  repeat' with_reducible first
    | exact Le.non _
    | exact Le.rf _
    | refine Le.grd ?_
    | refine Le.bind ?_ (fun _ => ?_)
    | refine Le.cond ?_ ?_
    | refine Le.map ?_
    | refine Le.elim (fun _ => ?_) (fun _ => ?_)
    | refine Le.lt (fun _ => ?_)
    | refine Le.loop (fun _ => ?_)
    | refine Le.loopF (fun _ => ?_)
theorem LE_code_Settle_L2 (p0 : T_api_Code) (p1 : Int) (x45 : Int) (x46 : Int) : Le (X_code_Settle_L2 p0 p1 x45 x46) (F_code_Settle_L2 p0 p1 x45 x46) := by
  unfold X_code_Settle_L2 F_code_Settle_L2
  repeat' with_reducible first
    | apply LE_code_Settle_J1
    | exact Le.non _
    | exact Le.rf _
    | refine Le.grd ?_
    | refine Le.bind ?_ (fun _ => ?_)
    | refine Le.cond ?_ ?_
    | refine Le.map ?_
    | refine Le.elim (fun _ => ?_) (fun _ => ?_)
    | refine Le.lt (fun _ => ?_)
    | refine Le.loop (fun _ => ?_)
    | refine Le.loopF (fun _ => ?_)
theorem LE_code_Settle (p0 : T_api_Code) (p1 : Int) : Le (X_code_Settle p0 p1) (F_code_Settle p0 p1) := by
  unfold X_code_Settle F_code_Settle
  repeat' with_reducible first
    | apply LE_code_Settle_L2
    | exact Le.non _
    | exact Le.rf _
    | refine Le.grd ?_
    | refine Le.bind ?_ (fun _ => ?_)
    | refine Le.cond ?_ ?_
    | refine Le.map ?_
    | refine Le.elim (fun _ => ?_) (fun _ => ?_)
    | refine Le.lt (fun _ => ?_)
    | refine Le.loop (fun _ => ?_)
    | refine Le.loopF (fun _ => ?_)
theorem LE_run_runner_alt_J1 (p1 : T_api_Alt) (p2 : Int) (x42 : Bool) (x43 : (List T_api_Ins)) (x44 : (List T_api_Def)) (x45 : (List T_api_Chan)) (x46 : Int) (x47 : Int) (x48 : Int) (x49 : Int) (x50 : Int) (x51 : Int) (x52 : Int) (x53 : Int) (x54 : Int) (x55 : Int) (x56 : Int) (x57 : (List T_api_Alt)) (x58 : Int) (x59 : Int) (x60 : Int) (x61 : Int) (x62 : Int) (x63 : Int) (x64 : Int) (x65 : Int) (x66 : Int) (x67 : Bool) (x68 : (List Int)) (x69 : (List T_api_Alt)) : Le (X_run_runner_alt_J1 p1 p2 x42 x43 x44 x45 x46 x47 x48 x49 x50 x51 x52 x53 x54 x55 x56 x57 x58 x59 x60 x61 x62 x63 x64 x65 x66 x67 x68 x69) (F_run_runner_alt_J1 p1 p2 x42 x43 x44 x45 x46 x47 x48 x49 x50 x51 x52 x53 x54 x55 x56 x57 x58 x59 x60 x61 x62 x63 x64 x65 x66 x67 x68 x69) := by
  unfold X_run_runner_alt_J1 F_run_runner_alt_J1
  repeat' with_reducible first
    | apply LE_code_Settle
    | exact Le.non _
    | exact Le.rf _
    | refine Le.grd ?_
    | refine Le.bind ?_ (fun _ => ?_)
    | refine Le.cond ?_ ?_
    | refine Le.map ?_
    | refine Le.elim (fun _ => ?_) (fun _ => ?_)
    | refine Le.lt (fun _ => ?_)
    | refine Le.loop (fun _ => ?_)
    | refine Le.loopF (fun _ => ?_)
theorem LE_run_runner_alt (p1 : T_api_Alt) (p2 : Int) (o0_0 : (List T_api_Ins)) (o0_1 : (List T_api_Def)) (o0_2 : (List T_api_Chan)) (o0_3 : Int) (o0_4 : Int) (o0_5 : Int) (o0_6 : Int) (o0_8 : Int) (o0_9 : Int) (o0_10 : Int) (o0_11 : Int) (o0_12 : Int) (o0_13 : Int) (o0_14 : Int) (o0_15 : (List T_api_Alt)) (o0_17 : Int) (o0_18 : Int) (o0_19 : Int) (o0_20 : Int) (o0_21 : Int) (o0_22 : Int) (o0_23 : Int) (o0_24 : Int) (o0_27 : Int) (o0_28 : Bool) (o2 : T_stack_Stack_int_) (o1 : (List Int)) (o4 : (List Int)) (o5 : (List T_api_Alt)) : Le (X_run_runner_alt p1 p2 o0_0 o0_1 o0_2 o0_3 o0_4 o0_5 o0_6 o0_8 o0_9 o0_10 o0_11 o0_12 o0_13 o0_14 o0_15 o0_17 o0_18 o0_19 o0_20 o0_21 o0_22 o0_23 o0_24 o0_27 o0_28 o2 o1 o4 o5) (F_run_runner_alt p1 p2 o0_0 o0_1 o0_2 o0_3 o0_4 o0_5 o0_6 o0_8 o0_9 o0_10 o0_11 o0_12 o0_13 o0_14 o0_15 o0_17 o0_18 o0_19 o0_20 o0_21 o0_22 o0_23 o0_24 o0_27 o0_28 o2 o1 o4 o5) := by
  unfold X_run_runner_alt F_run_runner_alt
  repeat' with_reducible first
    | apply LE_run_runner_none
    | apply LE_run_runner_alt_J1
    | exact Le.non _
    | exact Le.rf _
    | refine Le.grd ?_
    | refine Le.bind ?_ (fun _ => ?_)
    | refine Le.cond ?_ ?_
    | refine Le.map ?_
    | refine Le.elim (fun _ => ?_) (fun _ => ?_)
    | refine Le.lt (fun _ => ?_)
    | refine Le.loop (fun _ => ?_)
    | refine Le.loopF (fun _ => ?_)
theorem LE_run_runner_reckons_J1 (x32 : (List T_api_Ins)) (x33 : (List T_api_Def)) (x34 : (List T_api_Chan)) (x35 : Int) (x36 : Int) (x37 : Int) (x38 : Int) (x39 : Int) (x40 : Int) (x41 : Int) (x42 : Int) (x43 : Int) (x44 : Int) (x45 : Int) (x46 : (List T_api_Alt)) (x47 : Int) (x48 : Int) (x49 : Int) (x50 : Int) (x51 : Int) (x52 : Int) (x53 : Int) (x54 : Int) (x55 : Int) (x56 : Bool) (x57 : Int) (x58 : (List Int)) (x59 : (List Int)) (x60 : (List T_api_Alt)) : Le (X_run_runner_reckons_J1 x32 x33 x34 x35 x36 x37 x38 x39 x40 x41 x42 x43 x44 x45 x46 x47 x48 x49 x50 x51 x52 x53 x54 x55 x56 x57 x58 x59 x60) (F_run_runner_reckons_J1 x32 x33 x34 x35 x36 x37 x38 x39 x40 x41 x42 x43 x44 x45 x46 x47 x48 x49 x50 x51 x52 x53 x54 x55 x56 x57 x58 x59 x60) := by
  unfold X_run_runner_reckons_J1 F_run_runner_reckons_J1
  repeat' with_reducible first
    | exact Le.non _
    | exact Le.rf _
    | refine Le.grd ?_
    | refine Le.bind ?_ (fun _ => ?_)
    | refine Le.cond ?_ ?_
    | refine Le.map ?_
    | refine Le.elim (fun _ => ?_) (fun _ => ?_)
    | refine Le.lt (fun _ => ?_)
    | refine Le.loop (fun _ => ?_)
    | refine Le.loopF (fun _ => ?_)
theorem LE_run_runner_reckons (p1 : T_api_Ins) (o0_0 : (List T_api_Ins)) (o0_1 : (List T_api_Def)) (o0_2 : (List T_api_Chan)) (o0_3 : Int) (o0_4 : Int) (o0_5 : Int) (o0_6 : Int) (o0_8 : Int) (o0_9 : Int) (o0_10 : Int) (o0_11 : Int) (o0_12 : Int) (o0_13 : Int) (o0_14 : Int) (o0_15 : (List T_api_Alt)) (o0_17 : Int) (o0_18 : Int) (o0_19 : Int) (o0_20 : Int) (o0_21 : Int) (o0_22 : Int) (o0_23 : Int) (o0_24 : Int) (o0_27 : Int) (o0_28 : Bool) (o2 : T_stack_Stack_int_) (o1 : (List Int)) (o4 : (List Int)) (o5 : (List T_api_Alt)) : Le (X_run_runner_reckons p1 o0_0 o0_1 o0_2 o0_3 o0_4 o0_5 o0_6 o0_8 o0_9 o0_10 o0_11 o0_12 o0_13 o0_14 o0_15 o0_17 o0_18 o0_19 o0_20 o0_21 o0_22 o0_23 o0_24 o0_27 o0_28 o2 o1 o4 o5) (F_run_runner_reckons p1 o0_0 o0_1 o0_2 o0_3 o0_4 o0_5 o0_6 o0_8 o0_9 o0_10 o0_11 o0_12 o0_13 o0_14 o0_15 o0_17 o0_18 o0_19 o0_20 o0_21 o0_22 o0_23 o0_24 o0_27 o0_28 o2 o1 o4 o5) := by
  unfold X_run_runner_reckons F_run_runner_reckons
  repeat' with_reducible first
    | apply LE_run_runner_lay
    | apply LE_run_runner_reckons_J1
    | apply LE_run_runner_slot
    | apply LE_run_runner_reckon
    | apply LE_run_runner_jump
    | apply LE_run_runner_take
    | apply LE_run_runner_channel
    | apply LE_run_runner_alt
    | exact Le.non _
    | exact Le.rf _
    | refine Le.grd ?_
    | refine Le.bind ?_ (fun _ => ?_)
    | refine Le.cond ?_ ?_
    | refine Le.map ?_
    | refine Le.elim (fun _ => ?_) (fun _ => ?_)
    | refine Le.lt (fun _ => ?_)
    | refine Le.loop (fun _ => ?_)
    | refine Le.loopF (fun _ => ?_)
theorem LE_run_runner_ends_J3 (p1 : T_api_Ins) (o0_0 : (List T_api_Ins)) (o0_1 : (List T_api_Def)) (o0_2 : (List T_api_Chan)) (o0_3 : Int) (o0_4 : Int) (o0_5 : Int) (o0_6 : Int) (o0_8 : Int) (o0_9 : Int) (o0_10 : Int) (o0_11 : Int) (o0_12 : Int) (o0_13 : Int) (o0_14 : Int) (o0_15 : (List T_api_Alt)) (o0_17 : Int) (o0_18 : Int) (o0_19 : Int) (o0_20 : Int) (o0_21 : Int) (o0_24 : Int) (o0_27 : Int) (o0_28 : Bool) (o1 : (List Int)) (o4 : (List Int)) (y2 : Int) (y11 : Int × T_stack_Stack_int_) (x13 : Int) : Le (X_run_runner_ends_J3 p1 o0_0 o0_1 o0_2 o0_3 o0_4 o0_5 o0_6 o0_8 o0_9 o0_10 o0_11 o0_12 o0_13 o0_14 o0_15 o0_17 o0_18 o0_19 o0_20 o0_21 o0_24 o0_27 o0_28 o1 o4 y2 y11 x13) (F_run_runner_ends_J3 p1 o0_0 o0_1 o0_2 o0_3 o0_4 o0_5 o0_6 o0_8 o0_9 o0_10 o0_11 o0_12 o0_13 o0_14 o0_15 o0_17 o0_18 o0_19 o0_20 o0_21 o0_24 o0_27 o0_28 o1 o4 y2 y11 x13) := by
  unfold X_run_runner_ends_J3 F_run_runner_ends_J3
  repeat' with_reducible first
    | apply LE_run_runner_end
    | exact Le.non _
    | exact Le.rf _
    | refine Le.grd ?_
    | refine Le.bind ?_ (fun _ => ?_)
    | refine Le.cond ?_ ?_
    | refine Le.map ?_
    | refine Le.elim (fun _ => ?_) (fun _ => ?_)
    | refine Le.lt (fun _ => ?_)
    | refine Le.loop (fun _ => ?_)
    | refine Le.loopF (fun _ => ?_)
theorem LE_run_runner_ends_J5 (o0_0 : (List T_api_Ins)) (o0_1 : (List T_api_Def)) (o0_2 : (List T_api_Chan)) (o0_3 : Int) (o0_4 : Int) (o0_5 : Int) (o0_6 : Int) (o0_8 : Int) (o0_9 : Int) (o0_10 : Int) (o0_11 : Int) (o0_12 : Int) (o0_13 : Int) (o0_14 : Int) (o0_15 : (List T_api_Alt)) (o0_17 : Int) (o0_18 : Int) (o0_19 : Int) (o0_20 : Int) (o0_21 : Int) (o0_23 : Int) (o0_24 : Int) (o0_27 : Int) (o0_28 : Bool) (o1 : (List Int)) (o4 : (List Int)) (y2 : Int) (y36 : Int × T_stack_Stack_int_) (x38 : Int) : Le (X_run_runner_ends_J5 o0_0 o0_1 o0_2 o0_3 o0_4 o0_5 o0_6 o0_8 o0_9 o0_10 o0_11 o0_12 o0_13 o0_14 o0_15 o0_17 o0_18 o0_19 o0_20 o0_21 o0_23 o0_24 o0_27 o0_28 o1 o4 y2 y36 x38) (F_run_runner_ends_J5 o0_0 o0_1 o0_2 o0_3 o0_4 o0_5 o0_6 o0_8 o0_9 o0_10 o0_11 o0_12 o0_13 o0_14 o0_15 o0_17 o0_18 o0_19 o0_20 o0_21 o0_23 o0_24 o0_27 o0_28 o1 o4 y2 y36 x38) := by
  unfold X_run_runner_ends_J5 F_run_runner_ends_J5
  repeat' with_reducible first
    | apply LE_run_runner_end
    | exact Le.non _
    | exact Le.rf _
    | refine Le.grd ?_
    | refine Le.bind ?_ (fun _ => ?_)
    | refine Le.cond ?_ ?_
    | refine Le.map ?_
    | refine Le.elim (fun _ => ?_) (fun _ => ?_)
    | refine Le.lt (fun _ => ?_)
    | refine Le.loop (fun _ => ?_)
    | refine Le.loopF (fun _ => ?_)
theorem LE_run_runner_ends_J4 (p1 : T_api_Ins) (o0_0 : (List T_api_Ins)) (o0_1 : (List T_api_Def)) (o0_2 : (List T_api_Chan)) (o0_3 : Int) (o0_4 : Int) (o0_5 : Int) (o0_6 : Int) (o0_8 : Int) (o0_9 : Int) (o0_10 : Int) (o0_11 : Int) (o0_12 : Int) (o0_13 : Int) (o0_14 : Int) (o0_15 : (List T_api_Alt)) (o0_17 : Int) (o0_18 : Int) (o0_19 : Int) (o0_20 : Int) (o0_21 : Int) (o0_22 : Int) (o0_23 : Int) (o0_24 : Int) (o0_27 : Int) (o0_28 : Bool) (o2 : T_stack_Stack_int_) (o1 : (List Int)) (o4 : (List Int)) (o5 : (List T_api_Alt)) (y2 : Int) (x33 : Bool) : Le (X_run_runner_ends_J4 p1 o0_0 o0_1 o0_2 o0_3 o0_4 o0_5 o0_6 o0_8 o0_9 o0_10 o0_11 o0_12 o0_13 o0_14 o0_15 o0_17 o0_18 o0_19 o0_20 o0_21 o0_22 o0_23 o0_24 o0_27 o0_28 o2 o1 o4 o5 y2 x33) (F_run_runner_ends_J4 p1 o0_0 o0_1 o0_2 o0_3 o0_4 o0_5 o0_6 o0_8 o0_9 o0_10 o0_11 o0_12 o0_13 o0_14 o0_15 o0_17 o0_18 o0_19 o0_20 o0_21 o0_22 o0_23 o0_24 o0_27 o0_28 o2 o1 o4 o5 y2 x33) := by
  unfold X_run_runner_ends_J4 F_run_runner_ends_J4
  repeat' with_reducible first
    | apply LE_run_runner_take
    | apply LE_run_runner_ends_J5
    | apply LE_stack_Stack_int_Take
    | apply LE_run_runner_end
    | apply LE_run_runner_fault
    | exact Le.non _
    | exact Le.rf _
    | refine Le.grd ?_
    | refine Le.bind ?_ (fun _ => ?_)
    | refine Le.cond ?_ ?_
    | refine Le.map ?_
    | refine Le.elim (fun _ => ?_) (fun _ => ?_)
    | refine Le.lt (fun _ => ?_)
    | refine Le.loop (fun _ => ?_)
    | refine Le.loopF (fun _ => ?_)
theorem LE_run_runner_ends_J2 (p1 : T_api_Ins) (o0_0 : (List T_api_Ins)) (o0_1 : (List T_api_Def)) (o0_2 : (List T_api_Chan)) (o0_3 : Int) (o0_4 : Int) (o0_5 : Int) (o0_6 : Int) (o0_8 : Int) (o0_9 : Int) (o0_10 : Int) (o0_11 : Int) (o0_12 : Int) (o0_13 : Int) (o0_14 : Int) (o0_15 : (List T_api_Alt)) (o0_17 : Int) (o0_18 : Int) (o0_19 : Int) (o0_20 : Int) (o0_21 : Int) (o0_22 : Int) (o0_23 : Int) (o0_24 : Int) (o0_27 : Int) (o0_28 : Bool) (o2 : T_stack_Stack_int_) (o1 : (List Int)) (o4 : (List Int)) (o5 : (List T_api_Alt)) (y2 : Int) (x8 : Bool) : Le (X_run_runner_ends_J2 p1 o0_0 o0_1 o0_2 o0_3 o0_4 o0_5 o0_6 o0_8 o0_9 o0_10 o0_11 o0_12 o0_13 o0_14 o0_15 o0_17 o0_18 o0_19 o0_20 o0_21 o0_22 o0_23 o0_24 o0_27 o0_28 o2 o1 o4 o5 y2 x8) (F_run_runner_ends_J2 p1 o0_0 o0_1 o0_2 o0_3 o0_4 o0_5 o0_6 o0_8 o0_9 o0_10 o0_11 o0_12 o0_13 o0_14 o0_15 o0_17 o0_18 o0_19 o0_20 o0_21 o0_22 o0_23 o0_24 o0_27 o0_28 o2 o1 o4 o5 y2 x8) := by
  unfold X_run_runner_ends_J2 F_run_runner_ends_J2
  repeat' with_reducible first
    | apply LE_run_runner_take
    | apply LE_run_runner_ends_J3
    | apply LE_run_runner_none
    | apply LE_run_runner_end
    | apply LE_run_runner_ends_J4
    | exact Le.non _
    | exact Le.rf _
    | refine Le.grd ?_
    | refine Le.bind ?_ (fun _ => ?_)
    | refine Le.cond ?_ ?_
    | refine Le.map ?_
    | refine Le.elim (fun _ => ?_) (fun _ => ?_)
    | refine Le.lt (fun _ => ?_)
    | refine Le.loop (fun _ => ?_)
    | refine Le.loopF (fun _ => ?_)
theorem LE_run_runner_ends_J1 (p1 : T_api_Ins) (p2 : Int) (o0_0 : (List T_api_Ins)) (o0_1 : (List T_api_Def)) (o0_2 : (List T_api_Chan)) (o0_3 : Int) (o0_4 : Int) (o0_5 : Int) (o0_6 : Int) (o0_8 : Int) (o0_9 : Int) (o0_10 : Int) (o0_11 : Int) (o0_12 : Int) (o0_13 : Int) (o0_14 : Int) (o0_15 : (List T_api_Alt)) (o0_17 : Int) (o0_18 : Int) (o0_19 : Int) (o0_20 : Int) (o0_21 : Int) (o0_22 : Int) (o0_23 : Int) (o0_24 : Int) (o0_27 : Int) (o0_28 : Bool) (o2 : T_stack_Stack_int_) (o1 : (List Int)) (o4 : (List Int)) (o5 : (List T_api_Alt)) (y2 : Int) (x4 : Bool) : Le (X_run_runner_ends_J1 p1 p2 o0_0 o0_1 o0_2 o0_3 o0_4 o0_5 o0_6 o0_8 o0_9 o0_10 o0_11 o0_12 o0_13 o0_14 o0_15 o0_17 o0_18 o0_19 o0_20 o0_21 o0_22 o0_23 o0_24 o0_27 o0_28 o2 o1 o4 o5 y2 x4) (F_run_runner_ends_J1 p1 p2 o0_0 o0_1 o0_2 o0_3 o0_4 o0_5 o0_6 o0_8 o0_9 o0_10 o0_11 o0_12 o0_13 o0_14 o0_15 o0_17 o0_18 o0_19 o0_20 o0_21 o0_22 o0_23 o0_24 o0_27 o0_28 o2 o1 o4 o5 y2 x4) := by
  unfold X_run_runner_ends_J1 F_run_runner_ends_J1
  repeat' with_reducible first
    | apply LE_run_runner_end
    | apply LE_run_runner_ends_J2
    | exact Le.non _
    | exact Le.rf _
    | refine Le.grd ?_
    | refine Le.bind ?_ (fun _ => ?_)
    | refine Le.cond ?_ ?_
    | refine Le.map ?_
    | refine Le.elim (fun _ => ?_) (fun _ => ?_)
    | refine Le.lt (fun _ => ?_)
    | refine Le.loop (fun _ => ?_)
    | refine Le.loopF (fun _ => ?_)
theorem LE_run_runner_ends (p1 : T_api_Ins) (p2 : Int) (o0_0 : (List T_api_Ins)) (o0_1 : (List T_api_Def)) (o0_2 : (List T_api_Chan)) (o0_3 : Int) (o0_4 : Int) (o0_5 : Int) (o0_6 : Int) (o0_8 : Int) (o0_9 : Int) (o0_10 : Int) (o0_11 : Int) (o0_12 : Int) (o0_13 : Int) (o0_14 : Int) (o0_15 : (List T_api_Alt)) (o0_17 : Int) (o0_18 : Int) (o0_19 : Int) (o0_20 : Int) (o0_21 : Int) (o0_22 : Int) (o0_23 : Int) (o0_24 : Int) (o0_27 : Int) (o0_28 : Bool) (o2 : T_stack_Stack_int_) (o1 : (List Int)) (o4 : (List Int)) (o5 : (List T_api_Alt)) : Le (X_run_runner_ends p1 p2 o0_0 o0_1 o0_2 o0_3 o0_4 o0_5 o0_6 o0_8 o0_9 o0_10 o0_11 o0_12 o0_13 o0_14 o0_15 o0_17 o0_18 o0_19 o0_20 o0_21 o0_22 o0_23 o0_24 o0_27 o0_28 o2 o1 o4 o5) (F_run_runner_ends p1 p2 o0_0 o0_1 o0_2 o0_3 o0_4 o0_5 o0_6 o0_8 o0_9 o0_10 o0_11 o0_12 o0_13 o0_14 o0_15 o0_17 o0_18 o0_19 o0_20 o0_21 o0_22 o0_23 o0_24 o0_27 o0_28 o2 o1 o4 o5) := by
  unfold X_run_runner_ends F_run_runner_ends
  repeat' with_reducible first
    | apply LE_code_Settle
    | apply LE_run_runner_ends_J1
    | exact Le.non _
    | exact Le.rf _
    | refine Le.grd ?_
    | refine Le.bind ?_ (fun _ => ?_)
    | refine Le.cond ?_ ?_
    | refine Le.map ?_
    | refine Le.elim (fun _ => ?_) (fun _ => ?_)
    | refine Le.lt (fun _ => ?_)
    | refine Le.loop (fun _ => ?_)
    | refine Le.loopF (fun _ => ?_)
theorem LE_run_Step_J2 (x126 : (List T_api_Ins)) (x127 : (List T_api_Def)) (x128 : (List T_api_Chan)) (x129 : Int) (x130 : Int) (x131 : Int) (x132 : Int) (x133 : Int) (x134 : Int) (x135 : Int) (x136 : Int) (x137 : Int) (x138 : Int) (x139 : Int) (x140 : (List T_api_Alt)) (x141 : Int) (x142 : Int) (x143 : Int) (x144 : Int) (x145 : Int) (x146 : Int) (x147 : Int) (x148 : Int) (x149 : Int) (x150 : Bool) (x151 : Int) (x152 : (List Int)) (x153 : (List Int)) (x154 : (List T_api_Alt)) : Le (X_run_Step_J2 x126 x127 x128 x129 x130 x131 x132 x133 x134 x135 x136 x137 x138 x139 x140 x141 x142 x143 x144 x145 x146 x147 x148 x149 x150 x151 x152 x153 x154) (F_run_Step_J2 x126 x127 x128 x129 x130 x131 x132 x133 x134 x135 x136 x137 x138 x139 x140 x141 x142 x143 x144 x145 x146 x147 x148 x149 x150 x151 x152 x153 x154) := by
  unfold X_run_Step_J2 F_run_Step_J2
  repeat' with_reducible first
    | exact Le.non _
    | exact Le.rf _
    | refine Le.grd ?_
    | refine Le.bind ?_ (fun _ => ?_)
    | refine Le.cond ?_ ?_
    | refine Le.map ?_
    | refine Le.elim (fun _ => ?_) (fun _ => ?_)
    | refine Le.lt (fun _ => ?_)
    | refine Le.loop (fun _ => ?_)
    | refine Le.loopF (fun _ => ?_)
theorem LE_run_Step_J3 (x155 : Int) (x211 : (List T_api_Ins)) (x212 : (List T_api_Def)) (x213 : (List T_api_Chan)) (x214 : Int) (x215 : Int) (x216 : Int) (x217 : Int) (x218 : Int) (x219 : Int) (x220 : Int) (x221 : Int) (x222 : Int) (x223 : Int) (x224 : Int) (x225 : (List T_api_Alt)) (x226 : Int) (x227 : Int) (x228 : Int) (x229 : Int) (x230 : Int) (x231 : Int) (x232 : Int) (x233 : Int) (x234 : Int) (x235 : Bool) (x236 : Int) (x237 : (List Int)) (x238 : (List Int)) (x239 : (List T_api_Alt)) : Le (X_run_Step_J3 x155 x211 x212 x213 x214 x215 x216 x217 x218 x219 x220 x221 x222 x223 x224 x225 x226 x227 x228 x229 x230 x231 x232 x233 x234 x235 x236 x237 x238 x239) (F_run_Step_J3 x155 x211 x212 x213 x214 x215 x216 x217 x218 x219 x220 x221 x222 x223 x224 x225 x226 x227 x228 x229 x230 x231 x232 x233 x234 x235 x236 x237 x238 x239) := by
  unfold X_run_Step_J3 F_run_Step_J3
  repeat' with_reducible first
    | exact Le.non _
    | exact Le.rf _
    | refine Le.grd ?_
    | refine Le.bind ?_ (fun _ => ?_)
    | refine Le.cond ?_ ?_
    | refine Le.map ?_
    | refine Le.elim (fun _ => ?_) (fun _ => ?_)
    | refine Le.lt (fun _ => ?_)
    | refine Le.loop (fun _ => ?_)
    | refine Le.loopF (fun _ => ?_)
theorem LE_run_Step_J4 (p0 : T_api_Code) (o0 : (List Int)) (x155 : Int) (x156 : (List T_api_Ins)) (x157 : (List T_api_Def)) (x158 : (List T_api_Chan)) (x159 : Int) (x160 : Int) (x161 : Int) (x162 : Int) (x163 : Int) (x164 : Int) (x165 : Int) (x166 : Int) (x167 : Int) (x168 : Int) (x169 : Int) (x170 : (List T_api_Alt)) (x171 : Int) (x172 : Int) (x173 : Int) (x174 : Int) (x175 : Int) (x176 : Int) (x177 : Int) (x178 : Int) (x179 : Int) (x180 : Bool) (x181 : Int) (x182 : (List Int)) (x183 : (List Int)) (x184 : (List T_api_Alt)) (x248 : Bool) : Le (X_run_Step_J4 p0 o0 x155 x156 x157 x158 x159 x160 x161 x162 x163 x164 x165 x166 x167 x168 x169 x170 x171 x172 x173 x174 x175 x176 x177 x178 x179 x180 x181 x182 x183 x184 x248) (F_run_Step_J4 p0 o0 x155 x156 x157 x158 x159 x160 x161 x162 x163 x164 x165 x166 x167 x168 x169 x170 x171 x172 x173 x174 x175 x176 x177 x178 x179 x180 x181 x182 x183 x184 x248) := by
  unfold X_run_Step_J4 F_run_Step_J4
  repeat' with_reducible first
    | apply LE_run_Step_J2
    | apply LE_run_runner_reckons
    | apply LE_run_runner_ends
    | apply LE_run_Step_J3
    | exact Le.non _
    | exact Le.rf _
    | refine Le.grd ?_
    | refine Le.bind ?_ (fun _ => ?_)
    | refine Le.cond ?_ ?_
    | refine Le.map ?_
    | refine Le.elim (fun _ => ?_) (fun _ => ?_)
    | refine Le.lt (fun _ => ?_)
    | refine Le.loop (fun _ => ?_)
    | refine Le.loopF (fun _ => ?_)
theorem LE_run_Step_L5 (p0 : T_api_Code) (o0 : (List Int)) (x155 : Int) (x156 : (List T_api_Ins)) (x157 : (List T_api_Def)) (x158 : (List T_api_Chan)) (x159 : Int) (x160 : Int) (x161 : Int) (x162 : Int) (x163 : Int) (x164 : Int) (x165 : Int) (x166 : Int) (x167 : Int) (x168 : Int) (x169 : Int) (x170 : (List T_api_Alt)) (x171 : Int) (x172 : Int) (x173 : Int) (x174 : Int) (x175 : Int) (x176 : Int) (x177 : Int) (x178 : Int) (x179 : Int) (x180 : Bool) (x181 : Int) (x182 : (List Int)) (x183 : (List Int)) (x184 : (List T_api_Alt)) : Le (X_run_Step_L5 p0 o0 x155 x156 x157 x158 x159 x160 x161 x162 x163 x164 x165 x166 x167 x168 x169 x170 x171 x172 x173 x174 x175 x176 x177 x178 x179 x180 x181 x182 x183 x184) (F_run_Step_L5 p0 o0 x155 x156 x157 x158 x159 x160 x161 x162 x163 x164 x165 x166 x167 x168 x169 x170 x171 x172 x173 x174 x175 x176 x177 x178 x179 x180 x181 x182 x183 x184) := by
  unfold X_run_Step_L5 F_run_Step_L5
  repeat' with_reducible first
    | apply LE_run_Step_J4
    | apply LE_run_Step_J2
    | exact Le.non _
    | exact Le.rf _
    | refine Le.grd ?_
    | refine Le.bind ?_ (fun _ => ?_)
    | refine Le.cond ?_ ?_
    | refine Le.map ?_
    | refine Le.elim (fun _ => ?_) (fun _ => ?_)
    | refine Le.lt (fun _ => ?_)
    | refine Le.loop (fun _ => ?_)
    | refine Le.loopF (fun _ => ?_)
theorem LE_run_Step_J1 (p0 : T_api_Code) (p1_0 : Int) (p1_1 : Int) (p1_3 : Int) (p1_4 : Int) (p1_5 : Int) (p1_6 : Int) (p1_7 : Int) (p1_8 : Int) (p1_9 : Int) (p1_10 : (List T_api_Alt)) (o0 : (List Int)) (x9 : Bool) : Le (X_run_Step_J1 p0 p1_0 p1_1 p1_3 p1_4 p1_5 p1_6 p1_7 p1_8 p1_9 p1_10 o0 x9) (F_run_Step_J1 p0 p1_0 p1_1 p1_3 p1_4 p1_5 p1_6 p1_7 p1_8 p1_9 p1_10 o0 x9) := by
  unfold X_run_Step_J1 F_run_Step_J1
  repeat' with_reducible first
    | apply LE_stack_New_int
    | apply LE_run_Step_L5
    | exact Le.non _
    | exact Le.rf _
    | refine Le.grd ?_
    | refine Le.bind ?_ (fun _ => ?_)
    | refine Le.cond ?_ ?_
    | refine Le.map ?_
    | refine Le.elim (fun _ => ?_) (fun _ => ?_)
    | refine Le.lt (fun _ => ?_)
    | refine Le.loop (fun _ => ?_)
    | refine Le.loopF (fun _ => ?_)
theorem LE_run_Step (p0 : T_api_Code) (p1_0 : Int) (p1_1 : Int) (p1_3 : Int) (p1_4 : Int) (p1_5 : Int) (p1_6 : Int) (p1_7 : Int) (p1_8 : Int) (p1_9 : Int) (p1_10 : (List T_api_Alt)) (o0 : (List Int)) : Le (X_run_Step p0 p1_0 p1_1 p1_3 p1_4 p1_5 p1_6 p1_7 p1_8 p1_9 p1_10 o0) (F_run_Step p0 p1_0 p1_1 p1_3 p1_4 p1_5 p1_6 p1_7 p1_8 p1_9 p1_10 o0) := by
  unfold X_run_Step F_run_Step
  repeat' with_reducible first
    | apply LE_run_Step_J1
    | apply LE_code_Stmt
    | exact Le.non _
    | exact Le.rf _
    | refine Le.grd ?_
    | refine Le.bind ?_ (fun _ => ?_)
    | refine Le.cond ?_ ?_
    | refine Le.map ?_
    | refine Le.elim (fun _ => ?_) (fun _ => ?_)
    | refine Le.lt (fun _ => ?_)
    | refine Le.loop (fun _ => ?_)
    | refine Le.loopF (fun _ => ?_)
theorem LE_slices_Equal_int_int_L1 (p0 : (List Int)) (p1 : (List Int)) (x22 : Int) : Le (X_slices_Equal_int_int_L1 p0 p1 x22) (F_slices_Equal_int_int_L1 p0 p1 x22) := by
  unfold X_slices_Equal_int_int_L1 F_slices_Equal_int_int_L1
  repeat' with_reducible first
    | exact Le.non _
    | exact Le.rf _
    | refine Le.grd ?_
    | refine Le.bind ?_ (fun _ => ?_)
    | refine Le.cond ?_ ?_
    | refine Le.map ?_
    | refine Le.elim (fun _ => ?_) (fun _ => ?_)
    | refine Le.lt (fun _ => ?_)
    | refine Le.loop (fun _ => ?_)
    | refine Le.loopF (fun _ => ?_)
theorem LE_slices_Equal_int_int (p0 : (List Int)) (p1 : (List Int)) : Le (X_slices_Equal_int_int p0 p1) (F_slices_Equal_int_int p0 p1) := by
  unfold X_slices_Equal_int_int F_slices_Equal_int_int
  repeat' with_reducible first
    | apply LE_slices_Equal_int_int_L1
    | exact Le.non _
    | exact Le.rf _
    | refine Le.grd ?_
    | refine Le.bind ?_ (fun _ => ?_)
    | refine Le.cond ?_ ?_
    | refine Le.map ?_
    | refine Le.elim (fun _ => ?_) (fun _ => ?_)
    | refine Le.lt (fun _ => ?_)
    | refine Le.loop (fun _ => ?_)
    | refine Le.loopF (fun _ => ?_)
theorem LE_slices_Equal_retrace_api_Alt_retrace_api_Alt_L1 (p0 : (List T_api_Alt)) (p1 : (List T_api_Alt)) (x22 : Int) : Le (X_slices_Equal_retrace_api_Alt_retrace_api_Alt_L1 p0 p1 x22) (F_slices_Equal_retrace_api_Alt_retrace_api_Alt_L1 p0 p1 x22) := by
  unfold X_slices_Equal_retrace_api_Alt_retrace_api_Alt_L1 F_slices_Equal_retrace_api_Alt_retrace_api_Alt_L1
  repeat' with_reducible first
    | exact Le.non _
    | exact Le.rf _
    | refine Le.grd ?_
    | refine Le.bind ?_ (fun _ => ?_)
    | refine Le.cond ?_ ?_
    | refine Le.map ?_
    | refine Le.elim (fun _ => ?_) (fun _ => ?_)
    | refine Le.lt (fun _ => ?_)
    | refine Le.loop (fun _ => ?_)
    | refine Le.loopF (fun _ => ?_)
theorem LE_slices_Equal_retrace_api_Alt_retrace_api_Alt (p0 : (List T_api_Alt)) (p1 : (List T_api_Alt)) : Le (X_slices_Equal_retrace_api_Alt_retrace_api_Alt p0 p1) (F_slices_Equal_retrace_api_Alt_retrace_api_Alt p0 p1) := by
  unfold X_slices_Equal_retrace_api_Alt_retrace_api_Alt F_slices_Equal_retrace_api_Alt_retrace_api_Alt
  repeat' with_reducible first
    | apply LE_slices_Equal_retrace_api_Alt_retrace_api_Alt_L1
    | exact Le.non _
    | exact Le.rf _
    | refine Le.grd ?_
    | refine Le.bind ?_ (fun _ => ?_)
    | refine Le.cond ?_ ?_
    | refine Le.map ?_
    | refine Le.elim (fun _ => ?_) (fun _ => ?_)
    | refine Le.lt (fun _ => ?_)
    | refine Le.loop (fun _ => ?_)
    | refine Le.loopF (fun _ => ?_)
theorem LE_run_Same_J1 (x12 : Bool) : Le (X_run_Same_J1 x12) (F_run_Same_J1 x12) := by
  unfold X_run_Same_J1 F_run_Same_J1
  repeat' with_reducible first
    | exact Le.non _
    | exact Le.rf _
    | refine Le.grd ?_
    | refine Le.bind ?_ (fun _ => ?_)
    | refine Le.cond ?_ ?_
    | refine Le.map ?_
    | refine Le.elim (fun _ => ?_) (fun _ => ?_)
    | refine Le.lt (fun _ => ?_)
    | refine Le.loop (fun _ => ?_)
    | refine Le.loopF (fun _ => ?_)
theorem LE_run_Same (p0 : T_api_Effect) (p1 : T_api_Effect) : Le (X_run_Same p0 p1) (F_run_Same p0 p1) := by
  unfold X_run_Same F_run_Same
  repeat' with_reducible first
    | apply LE_slices_Equal_int_int
    | apply LE_slices_Equal_retrace_api_Alt_retrace_api_Alt
    | apply LE_run_Same_J1
    | exact Le.non _
    | exact Le.rf _
    | refine Le.grd ?_
    | refine Le.bind ?_ (fun _ => ?_)
    | refine Le.cond ?_ ?_
    | refine Le.map ?_
    | refine Le.elim (fun _ => ?_) (fun _ => ?_)
    | refine Le.lt (fun _ => ?_)
    | refine Le.loop (fun _ => ?_)
    | refine Le.loopF (fun _ => ?_)
theorem LE_retracelaw24_live_J1 (x9 : Bool) : Le (X_retracelaw24_live_J1 x9) (F_retracelaw24_live_J1 x9) := by
  unfold X_retracelaw24_live_J1 F_retracelaw24_live_J1
  repeat' with_reducible first
    | exact Le.non _
    | exact Le.rf _
    | refine Le.grd ?_
    | refine Le.bind ?_ (fun _ => ?_)
    | refine Le.cond ?_ ?_
    | refine Le.map ?_
    | refine Le.elim (fun _ => ?_) (fun _ => ?_)
    | refine Le.lt (fun _ => ?_)
    | refine Le.loop (fun _ => ?_)
    | refine Le.loopF (fun _ => ?_)
theorem LE_retracelaw24_live  : Le (X_retracelaw24_live ) (F_retracelaw24_live ) := by
  unfold X_retracelaw24_live F_retracelaw24_live
  repeat' with_reducible first
    | apply LE_retraceref19_Text
    | apply LE_run_Step
    | apply LE_run_Same
    | apply LE_retracelaw24_live_J1
    | exact Le.non _
    | exact Le.rf _
    | refine Le.grd ?_
    | refine Le.bind ?_ (fun _ => ?_)
    | refine Le.cond ?_ ?_
    | refine Le.map ?_
    | refine Le.elim (fun _ => ?_) (fun _ => ?_)
    | refine Le.lt (fun _ => ?_)
    | refine Le.loop (fun _ => ?_)
    | refine Le.loopF (fun _ => ?_)
theorem ev_retracelaw24_live : F_retracelaw24_live = some true := LE_retracelaw24_live _ (by kernel_rfl)
end Go.Ab
