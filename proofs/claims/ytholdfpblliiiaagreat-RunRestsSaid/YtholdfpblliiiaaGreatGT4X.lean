import Derived.Test.YtholdfpblliiiaaGreatGT4
import Derived.Test.YtholdfpblliiiaaGreatAbEval
namespace Go.Ab
open Go.Proofs
set_option linter.unusedVariables false
set_option maxRecDepth 100000
noncomputable def X_retraceref19_Text (p0 : ByteArray) : Option (T_retraceref19_Got) :=
  cond (sEq p0 ⟨#[109, 97, 105, 110, 32, 123, 32, 118, 97, 114, 32, 120, 32, 61, 32, 49, 32, 47, 32, 48, 59, 32, 125]⟩) (some ⟨⟨[⟨1, 0, 0⟩, ⟨2, 1, 0⟩, ⟨2, 0, 0⟩, ⟨5, 8, 0⟩, ⟨4, 0, 0⟩, ⟨24, 0, 0⟩], [⟨⟨#[109, 97, 105, 110]⟩, 0, 0, 1⟩], [], 0, 1⟩, 0, 0⟩) none
noncomputable def X_code_Stmt_J1 (p0 : T_api_Code) (p1 : Int) (x12 : Bool) : Option (Int) :=
  cond x12 (some (-1)) ((lAt p0.Ins p1).bind fun y15 => some y15.A)
noncomputable def X_code_Stmt (p0 : T_api_Code) (p1 : Int) : Option (Int) :=
  cond (decide (p1 < 0)) (X_code_Stmt_J1 p0 p1 true) (cond (decide (((p0.Ins).length : Int) ≤ p1)) (X_code_Stmt_J1 p0 p1 true) ((lAt p0.Ins p1).bind fun y18 => X_code_Stmt_J1 p0 p1 (y18.Op != 1)))
noncomputable def X_stack_New_int (p0 : Int) : Option (T_stack_Stack_int_) :=
  some (⟨([] : (List Int)), (if 0 > p0 then 0 else p0)⟩ : T_stack_Stack_int_)
noncomputable def X_stack_Stack_int_Room (o0 : T_stack_Stack_int_) : Option (Int) :=
  some (w64 (o0.most - ((o0.l).length : Int)))
noncomputable def X_stack_Stack_int_Push (p1 : Int) (o0 : T_stack_Stack_int_) : Option (Bool × T_stack_Stack_int_) :=
  (X_stack_Stack_int_Room o0).bind fun y5 => cond (y5 == 0) (some (false, o0)) (grd (((o0.l).length + ([p1]).length) * 8 ≤ 140737488355328) <| some (true, (⟨(o0.l ++ [p1]), o0.most⟩ : T_stack_Stack_int_)))
noncomputable def X_run_runner_end (p1 : Int) (p2 : Int) (o0_0 : (List T_api_Ins)) (o0_1 : (List T_api_Def)) (o0_2 : (List T_api_Chan)) (o0_3 : Int) (o0_4 : Int) (o0_5 : Int) (o0_6 : Int) (o0_7 : (List Int)) (o0_8 : Int) (o0_9 : Int) (o0_10 : Int) (o0_11 : Int) (o0_12 : Int) (o0_13 : Int) (o0_14 : Int) (o0_15 : (List T_api_Alt)) (o0_17 : Int) (o0_18 : Int) (o0_19 : Int) (o0_20 : Int) (o0_21 : Int) (o0_22 : Int) (o0_23 : Int) (o0_24 : Int) (o0_27 : Int) (o0_28 : Bool) (o1 : T_stack_Stack_int_) (o3 : (List Int)) (o4 : (List T_api_Alt)) : Option (Int × Int × Bool) :=
  some (p1, p2, true)
noncomputable def X_run_runner_fault (p1 : Int) (o0_0 : (List T_api_Ins)) (o0_1 : (List T_api_Def)) (o0_2 : (List T_api_Chan)) (o0_3 : Int) (o0_4 : Int) (o0_5 : Int) (o0_6 : Int) (o0_7 : (List Int)) (o0_8 : Int) (o0_9 : Int) (o0_10 : Int) (o0_11 : Int) (o0_12 : Int) (o0_13 : Int) (o0_14 : Int) (o0_15 : (List T_api_Alt)) (o0_17 : Int) (o0_18 : Int) (o0_19 : Int) (o0_20 : Int) (o0_21 : Int) (o0_22 : Int) (o0_23 : Int) (o0_24 : Int) (o0_27 : Int) (o0_28 : Bool) (o1 : T_stack_Stack_int_) (o3 : (List Int)) (o4 : (List T_api_Alt)) : Option (Int × Int × Int × Int × Int × Int × Int × Bool × (List Int) × (List T_api_Alt)) :=
  (X_run_runner_end 11 0 o0_0 o0_1 o0_2 o0_3 o0_4 o0_5 o0_6 o0_7 o0_8 o0_9 o0_10 o0_11 o0_12 o0_13 o0_14 o0_15 o0_17 0 o0_19 0 0 0 0 0 p1 o0_28 o1 ([] : List Int) ([] : List T_api_Alt)).bind fun y1 => some (y1.1, y1.2.1, 0, 0, 0, 0, p1, y1.2.2, ([] : List Int), ([] : List T_api_Alt))
noncomputable def X_run_runner_lay_J1 (x1 : Int) (x24 : Int) (x25 : Int) (x26 : Int) (x27 : Int) (x28 : Int) (x29 : Int) (x30 : Int) (x31 : Bool) (x32 : Int) (x33 : (List Int)) (x34 : (List Int)) (x35 : (List T_api_Alt)) : Option ((Int × Int × Int × Int × Int × Int × Int × Int × Bool × Int × (List Int) × (List Int) × (List T_api_Alt)) ⊕ (Int × Int × Int × Int × Int × Int × Int × Bool × T_stack_Stack_int_ × (List Int) × (List T_api_Alt))) :=
  some (.inl ((w64 (x1 + 1)), x24, x25, x26, x27, x28, x29, x30, x31, x32, x33, x34, x35))
noncomputable def X_run_runner_lay_L2 (o0_0 : (List T_api_Ins)) (o0_1 : (List T_api_Def)) (o0_2 : (List T_api_Chan)) (o0_3 : Int) (o0_4 : Int) (o0_5 : Int) (o0_6 : Int) (o0_7 : (List Int)) (o0_8 : Int) (o0_9 : Int) (o0_10 : Int) (o0_11 : Int) (o0_12 : Int) (o0_13 : Int) (o0_14 : Int) (o0_15 : (List T_api_Alt)) (o0_17 : Int) (o0_19 : Int) (o5 : (List Int)) (x1 : Int) (x2 : Int) (x3 : Int) (x4 : Int) (x5 : Int) (x6 : Int) (x7 : Int) (x8 : Int) (x9 : Bool) (x10 : Int) (x11 : (List Int)) (x12 : (List Int)) (x13 : (List T_api_Alt)) : Option ((Int × Int × Int × Int × Int × Int × Int × Int × Bool × Int × (List Int) × (List Int) × (List T_api_Alt)) ⊕ (Int × Int × Int × Int × Int × Int × Int × Bool × T_stack_Stack_int_ × (List Int) × (List T_api_Alt))) :=
  cond (decide (x1 < ((o5).length : Int))) ((lAt o5 x1).bind fun y37 => (X_stack_Stack_int_Push y37 (⟨x11, x10⟩ : T_stack_Stack_int_)).bind fun y39 => cond (!y39.1) ((X_run_runner_fault 2 o0_0 o0_1 o0_2 o0_3 o0_4 o0_5 o0_6 o0_7 o0_8 o0_9 o0_10 o0_11 o0_12 o0_13 o0_14 o0_15 o0_17 x2 o0_19 x3 x4 x5 x6 x7 x8 x9 y39.2 x12 x13).bind fun y41 => X_run_runner_lay_J1 x1 y41.1 y41.2.1 y41.2.2.1 y41.2.2.2.1 y41.2.2.2.2.1 y41.2.2.2.2.2.1 y41.2.2.2.2.2.2.1 y41.2.2.2.2.2.2.2.1 y39.2.most y39.2.l y41.2.2.2.2.2.2.2.2.1 y41.2.2.2.2.2.2.2.2.2) (X_run_runner_lay_J1 x1 x2 x3 x4 x5 x6 x7 x8 x9 y39.2.most y39.2.l x12 x13)) ((some (x2, x3, x4, x5, x6, x7, x8, x9, (⟨x11, x10⟩ : T_stack_Stack_int_), x12, x13)).map Sum.inr)
noncomputable def X_run_runner_lay (o0_0 : (List T_api_Ins)) (o0_1 : (List T_api_Def)) (o0_2 : (List T_api_Chan)) (o0_3 : Int) (o0_4 : Int) (o0_5 : Int) (o0_6 : Int) (o0_7 : (List Int)) (o0_8 : Int) (o0_9 : Int) (o0_10 : Int) (o0_11 : Int) (o0_12 : Int) (o0_13 : Int) (o0_14 : Int) (o0_15 : (List T_api_Alt)) (o0_17 : Int) (o0_18 : Int) (o0_19 : Int) (o0_20 : Int) (o0_21 : Int) (o0_22 : Int) (o0_23 : Int) (o0_24 : Int) (o0_27 : Int) (o0_28 : Bool) (o1 : T_stack_Stack_int_) (o3 : (List Int)) (o4 : (List T_api_Alt)) (o5 : (List Int)) : Option (Int × Int × Int × Int × Int × Int × Int × Bool × T_stack_Stack_int_ × (List Int) × (List T_api_Alt)) :=
  Loopx (fun s : (Int × Int × Int × Int × Int × Int × Int × Int × Bool × Int × (List Int) × (List Int) × (List T_api_Alt)) => X_run_runner_lay_L2 o0_0 o0_1 o0_2 o0_3 o0_4 o0_5 o0_6 o0_7 o0_8 o0_9 o0_10 o0_11 o0_12 o0_13 o0_14 o0_15 o0_17 o0_19 o5 s.1 s.2.1 s.2.2.1 s.2.2.2.1 s.2.2.2.2.1 s.2.2.2.2.2.1 s.2.2.2.2.2.2.1 s.2.2.2.2.2.2.2.1 s.2.2.2.2.2.2.2.2.1 s.2.2.2.2.2.2.2.2.2.1 s.2.2.2.2.2.2.2.2.2.2.1 s.2.2.2.2.2.2.2.2.2.2.2.1 s.2.2.2.2.2.2.2.2.2.2.2.2) (0, o0_18, o0_20, o0_21, o0_22, o0_23, o0_24, o0_27, o0_28, o1.most, o1.l, o3, o4)
noncomputable def X_run_runner_slot_J1 (p1 : Int) (o0_7 : (List Int)) (x6 : Bool) : Option (Int) :=
  cond x6 (some 0) ((lAt o0_7 p1).bind fun y9 => some y9)
noncomputable def X_run_runner_slot (p1 : Int) (o0_0 : (List T_api_Ins)) (o0_1 : (List T_api_Def)) (o0_2 : (List T_api_Chan)) (o0_3 : Int) (o0_4 : Int) (o0_5 : Int) (o0_6 : Int) (o0_7 : (List Int)) (o0_8 : Int) (o0_9 : Int) (o0_10 : Int) (o0_11 : Int) (o0_12 : Int) (o0_13 : Int) (o0_14 : Int) (o0_15 : (List T_api_Alt)) (o0_17 : Int) (o0_18 : Int) (o0_19 : Int) (o0_20 : Int) (o0_21 : Int) (o0_22 : Int) (o0_23 : Int) (o0_24 : Int) (o0_27 : Int) (o0_28 : Bool) (o1 : T_stack_Stack_int_) (o3 : (List Int)) (o4 : (List T_api_Alt)) : Option (Int) :=
  cond (decide (p1 < 0)) (X_run_runner_slot_J1 p1 o0_7 true) (X_run_runner_slot_J1 p1 o0_7 (decide (((o0_7).length : Int) ≤ p1)))
noncomputable def X_arith_Wide_J2 (x13 : Bool) : Option (Int) :=
  cond x13 (some 2) (some 0)
noncomputable def X_arith_Wide_J1 (p0 : Int) (x10 : Bool) : Option (Int) :=
  cond x10 (some 1) (cond (decide (5 ≤ p0)) (X_arith_Wide_J2 (decide (p0 ≤ 17))) (X_arith_Wide_J2 false))
noncomputable def X_arith_Wide (p0 : Int) : Option (Int) :=
  cond (p0 == 3) (X_arith_Wide_J1 p0 true) (X_arith_Wide_J1 p0 (p0 == 4))
noncomputable def X_stack_Stack_int_Len (o0 : T_stack_Stack_int_) : Option (Int) :=
  some ((o0.l).length : Int)
noncomputable def X_slices_Clone_int_int (p0 : (List Int)) : Option ((List Int)) :=
  grd (((([] : List Int)).length + (p0).length) * 8 ≤ 140737488355328) <| some (([] : List Int) ++ p0)
noncomputable def X_stack_Stack_int_Take_J2 (p1 : Int) (o0 : T_stack_Stack_int_) (y2 : Int) (x15 : (List Int)) : Option ((List Int) × Bool × T_stack_Stack_int_) :=
  grd ((0 : Int) ≤ (w64 (y2 - p1)) ∧ ((w64 (y2 - p1)) : Int) ≤ ((o0.l).length : Int) ∧ (w64 (y2 - p1)) = (w64 (y2 - p1))) <| some (x15, true, (⟨(lCut o0.l 0 (w64 (y2 - p1))), o0.most⟩ : T_stack_Stack_int_))
noncomputable def X_stack_Stack_int_Take_J1 (p1 : Int) (o0 : T_stack_Stack_int_) (y2 : Int) (x8 : Bool) : Option ((List Int) × Bool × T_stack_Stack_int_) :=
  cond x8 (some (([] : List Int), false, o0)) (cond (decide ((w64 (y2 - p1)) < ((o0.l).length : Int))) (grd ((0 : Int) ≤ (w64 (y2 - p1)) ∧ ((w64 (y2 - p1)) : Int) < ((o0.l).length : Int) ∧ ((o0.l).length : Int) ≤ ((o0.l).length : Int)) <| (X_slices_Clone_int_int (lCut o0.l (w64 (y2 - p1)) ((o0.l).length : Int))).bind fun y20 => X_stack_Stack_int_Take_J2 p1 o0 y2 y20) (grd ((0 : Int) ≤ (w64 (y2 - p1)) ∧ ((w64 (y2 - p1)) : Int) = ((o0.l).length : Int) ∧ ((o0.l).length : Int) ≤ ((o0.l).length : Int)) <| (X_slices_Clone_int_int ([] : List Int)).bind fun y22 => X_stack_Stack_int_Take_J2 p1 o0 y2 y22))
noncomputable def X_stack_Stack_int_Take (p1 : Int) (o0 : T_stack_Stack_int_) : Option ((List Int) × Bool × T_stack_Stack_int_) :=
  (X_stack_Stack_int_Len o0).bind fun y2 => cond (decide (p1 < 0)) (X_stack_Stack_int_Take_J1 p1 o0 y2 true) (X_stack_Stack_int_Take_J1 p1 o0 y2 (decide ((w64 (y2 - p1)) < 0)))
noncomputable def X_arith_bit (p0 : Bool) : Option (Int) :=
  cond p0 (some 1) (some 0)
noncomputable def X_arith_compared_J1 (x20 : Int) (x21 : Int) (x22 : Int) (x23 : Int) (x24 : Int) (x25 : Int) (x26 : Int) (x27 : Int) (x28 : Int) : Option (Int × Int × Int × Int × Int × Int × Int × Int × Int) :=
  some (x20, x21, x22, x23, x24, x25, x26, x27, x28)
noncomputable def X_arith_compared (p0 : Int) (p1 : Int) : Option (Int × Int × Int × Int × Int × Int × Int × Int × Int) :=
  (X_arith_bit (p0 == p1)).bind fun y29 => (X_arith_bit (p0 != p1)).bind fun y30 => (X_arith_bit (decide (p0 < p1))).bind fun y31 => (X_arith_bit (decide (p0 ≤ p1))).bind fun y32 => (X_arith_bit (decide (p1 < p0))).bind fun y33 => (X_arith_bit (decide (p1 ≤ p0))).bind fun y34 => cond (p0 != 0) ((X_arith_bit (p1 != 0)).bind fun y36 => cond (p0 != 0) ((X_arith_bit true).bind fun y38 => (X_arith_bit (p0 == 0)).bind fun y39 => X_arith_compared_J1 y29 y30 y31 y32 y33 y34 y36 y38 y39) ((X_arith_bit (p1 != 0)).bind fun y40 => (X_arith_bit (p0 == 0)).bind fun y41 => X_arith_compared_J1 y29 y30 y31 y32 y33 y34 y36 y40 y41)) ((X_arith_bit false).bind fun y42 => cond (p0 != 0) ((X_arith_bit true).bind fun y44 => (X_arith_bit (p0 == 0)).bind fun y45 => X_arith_compared_J1 y29 y30 y31 y32 y33 y34 y42 y44 y45) ((X_arith_bit (p1 != 0)).bind fun y46 => (X_arith_bit (p0 == 0)).bind fun y47 => X_arith_compared_J1 y29 y30 y31 y32 y33 y34 y42 y46 y47))
noncomputable def X_arith_Apply_J1 (p0 : Int) (p1 : Int) (p2 : Int) (x24 : Bool) : Option (Int × Int) :=
  cond x24 (cond (p2 == 0) (some (0, 1)) (cond (p0 == 8) (grd (p2 ≠ 0) <| some ((w64 (Int.tdiv p1 p2)), 0)) (grd (p2 ≠ 0) <| some ((Int.tmod p1 p2), 0)))) ((X_arith_compared p1 p2).bind fun y37 => some ((cond (p0 == 10) y37.1 (cond (p0 == 11) y37.2.1 (cond (p0 == 12) y37.2.2.1 (cond (p0 == 13) y37.2.2.2.1 (cond (p0 == 14) y37.2.2.2.2.1 (cond (p0 == 15) y37.2.2.2.2.2.1 (cond (p0 == 16) y37.2.2.2.2.2.2.1 (cond (p0 == 17) y37.2.2.2.2.2.2.2.1 (cond (p0 == 4) y37.2.2.2.2.2.2.2.2 0))))))))), 0))
noncomputable def X_arith_Apply (p0 : Int) (p1 : Int) (p2 : Int) : Option (Int × Int) :=
  cond (p0 == 3) (some ((w64 (0 - p1)), 0)) (cond (p0 == 5) (some ((w64 (p1 + p2)), 0)) (cond (p0 == 6) (some ((w64 (p1 - p2)), 0)) (cond (p0 == 7) (some ((w64 (p1 * p2)), 0)) (cond (p0 == 8) (X_arith_Apply_J1 p0 p1 p2 (p0 == 8)) (X_arith_Apply_J1 p0 p1 p2 (p0 == 9))))))
noncomputable def X_run_runner_reckon (p1 : Int) (o0_0 : (List T_api_Ins)) (o0_1 : (List T_api_Def)) (o0_2 : (List T_api_Chan)) (o0_3 : Int) (o0_4 : Int) (o0_5 : Int) (o0_6 : Int) (o0_7 : (List Int)) (o0_8 : Int) (o0_9 : Int) (o0_10 : Int) (o0_11 : Int) (o0_12 : Int) (o0_13 : Int) (o0_14 : Int) (o0_15 : (List T_api_Alt)) (o0_17 : Int) (o0_18 : Int) (o0_19 : Int) (o0_20 : Int) (o0_21 : Int) (o0_22 : Int) (o0_23 : Int) (o0_24 : Int) (o0_27 : Int) (o0_28 : Bool) (o1 : T_stack_Stack_int_) (o3 : (List Int)) (o4 : (List T_api_Alt)) : Option (Int × Int × Int × Int × Int × Int × Int × Bool × T_stack_Stack_int_ × (List Int) × (List T_api_Alt)) :=
  (X_arith_Wide p1).bind fun y3 => (X_stack_Stack_int_Take y3 o1).bind fun y4 => grd (((y4.1).length + ([0, 0]).length) * 8 ≤ 140737488355328) <| (lAt (y4.1 ++ [0, 0]) 0).bind fun y10 => (lAt (y4.1 ++ [0, 0]) 1).bind fun y11 => (X_arith_Apply p1 y10 y11).bind fun y12 => cond (y12.2 != 0) ((X_run_runner_fault y12.2 o0_0 o0_1 o0_2 o0_3 o0_4 o0_5 o0_6 o0_7 o0_8 o0_9 o0_10 o0_11 o0_12 o0_13 o0_14 o0_15 o0_17 o0_18 o0_19 o0_20 o0_21 o0_22 o0_23 o0_24 o0_27 o0_28 y4.2.2 o3 o4).bind fun y18 => some (y18.1, y18.2.1, y18.2.2.1, y18.2.2.2.1, y18.2.2.2.2.1, y18.2.2.2.2.2.1, y18.2.2.2.2.2.2.1, y18.2.2.2.2.2.2.2.1, y4.2.2, y18.2.2.2.2.2.2.2.2.1, y18.2.2.2.2.2.2.2.2.2)) ((X_run_runner_lay o0_0 o0_1 o0_2 o0_3 o0_4 o0_5 o0_6 o0_7 o0_8 o0_9 o0_10 o0_11 o0_12 o0_13 o0_14 o0_15 o0_17 o0_18 o0_19 o0_20 o0_21 o0_22 o0_23 o0_24 o0_27 o0_28 y4.2.2 o3 o4 ([y12.1])).bind fun y19 => some (y19.1, y19.2.1, y19.2.2.1, y19.2.2.2.1, y19.2.2.2.2.1, y19.2.2.2.2.2.1, y19.2.2.2.2.2.2.1, y19.2.2.2.2.2.2.2.1, y19.2.2.2.2.2.2.2.2.1, y19.2.2.2.2.2.2.2.2.2.1, y19.2.2.2.2.2.2.2.2.2.2))
noncomputable def X_run_runner_jump (p1 : Int) (p2 : Bool) (o0_0 : (List T_api_Ins)) (o0_1 : (List T_api_Def)) (o0_2 : (List T_api_Chan)) (o0_3 : Int) (o0_4 : Int) (o0_5 : Int) (o0_6 : Int) (o0_7 : (List Int)) (o0_8 : Int) (o0_9 : Int) (o0_10 : Int) (o0_11 : Int) (o0_12 : Int) (o0_13 : Int) (o0_14 : Int) (o0_15 : (List T_api_Alt)) (o0_17 : Int) (o0_18 : Int) (o0_19 : Int) (o0_20 : Int) (o0_21 : Int) (o0_22 : Int) (o0_23 : Int) (o0_24 : Int) (o0_27 : Int) (o0_28 : Bool) (o1 : T_stack_Stack_int_) (o3 : (List Int)) (o4 : (List T_api_Alt)) : Option (Int) :=
  cond p2 (some p1) (some o0_17)
noncomputable def X_stack_Stack_int_Pop (o0 : T_stack_Stack_int_) : Option (Int × Bool × T_stack_Stack_int_) :=
  (X_stack_Stack_int_Take 1 o0).bind fun y2 => cond (!y2.2.1) (some (0, false, y2.2.2)) ((lAt y2.1 0).bind fun y6 => some (y6, true, y2.2.2))
noncomputable def X_run_runner_take (o0_0 : (List T_api_Ins)) (o0_1 : (List T_api_Def)) (o0_2 : (List T_api_Chan)) (o0_3 : Int) (o0_4 : Int) (o0_5 : Int) (o0_6 : Int) (o0_7 : (List Int)) (o0_8 : Int) (o0_9 : Int) (o0_10 : Int) (o0_11 : Int) (o0_12 : Int) (o0_13 : Int) (o0_14 : Int) (o0_15 : (List T_api_Alt)) (o0_17 : Int) (o0_18 : Int) (o0_19 : Int) (o0_20 : Int) (o0_21 : Int) (o0_22 : Int) (o0_23 : Int) (o0_24 : Int) (o0_27 : Int) (o0_28 : Bool) (o1 : T_stack_Stack_int_) (o3 : (List Int)) (o4 : (List T_api_Alt)) : Option (Int × T_stack_Stack_int_) :=
  (X_stack_Stack_int_Pop o1).bind fun y2 => some (y2.1, y2.2.2)
noncomputable def X_run_runner_channel_J1 (p1 : T_api_Ins) (o0_0 : (List T_api_Ins)) (o0_1 : (List T_api_Def)) (o0_2 : (List T_api_Chan)) (o0_3 : Int) (o0_4 : Int) (o0_5 : Int) (o0_6 : Int) (o0_7 : (List Int)) (o0_8 : Int) (o0_9 : Int) (o0_10 : Int) (o0_11 : Int) (o0_12 : Int) (o0_13 : Int) (o0_14 : Int) (o0_15 : (List T_api_Alt)) (o0_17 : Int) (o0_18 : Int) (o0_19 : Int) (o0_20 : Int) (o0_21 : Int) (o0_22 : Int) (o0_23 : Int) (o0_24 : Int) (o0_27 : Int) (o0_28 : Bool) (o3 : (List Int)) (o4 : (List T_api_Alt)) (y8 : Int × T_stack_Stack_int_) (x16 : Bool) : Option (Int × Int × Int × Int × Int × Int × Int × Bool × T_stack_Stack_int_ × (List Int) × (List T_api_Alt)) :=
  cond x16 ((X_run_runner_fault 4 o0_0 o0_1 o0_2 o0_3 o0_4 o0_5 o0_6 o0_7 o0_8 o0_9 o0_10 o0_11 o0_12 o0_13 o0_14 o0_15 o0_17 o0_18 o0_19 o0_20 o0_21 o0_22 o0_23 o0_24 o0_27 o0_28 y8.2 o3 o4).bind fun y19 => some (y19.1, y19.2.1, y19.2.2.1, y19.2.2.2.1, y19.2.2.2.2.1, y19.2.2.2.2.2.1, y19.2.2.2.2.2.2.1, y19.2.2.2.2.2.2.2.1, y8.2, y19.2.2.2.2.2.2.2.2.1, y19.2.2.2.2.2.2.2.2.2)) ((X_run_runner_lay o0_0 o0_1 o0_2 o0_3 o0_4 o0_5 o0_6 o0_7 o0_8 o0_9 o0_10 o0_11 o0_12 o0_13 o0_14 o0_15 o0_17 o0_18 o0_19 o0_20 o0_21 o0_22 o0_23 o0_24 o0_27 o0_28 y8.2 o3 o4 ([(w64 (p1.A + y8.1))])).bind fun y20 => some (y20.1, y20.2.1, y20.2.2.1, y20.2.2.2.1, y20.2.2.2.2.1, y20.2.2.2.2.2.1, y20.2.2.2.2.2.2.1, y20.2.2.2.2.2.2.2.1, y20.2.2.2.2.2.2.2.2.1, y20.2.2.2.2.2.2.2.2.2.1, y20.2.2.2.2.2.2.2.2.2.2))
noncomputable def X_run_runner_channel (p1 : T_api_Ins) (o0_0 : (List T_api_Ins)) (o0_1 : (List T_api_Def)) (o0_2 : (List T_api_Chan)) (o0_3 : Int) (o0_4 : Int) (o0_5 : Int) (o0_6 : Int) (o0_7 : (List Int)) (o0_8 : Int) (o0_9 : Int) (o0_10 : Int) (o0_11 : Int) (o0_12 : Int) (o0_13 : Int) (o0_14 : Int) (o0_15 : (List T_api_Alt)) (o0_17 : Int) (o0_18 : Int) (o0_19 : Int) (o0_20 : Int) (o0_21 : Int) (o0_22 : Int) (o0_23 : Int) (o0_24 : Int) (o0_27 : Int) (o0_28 : Bool) (o1 : T_stack_Stack_int_) (o3 : (List Int)) (o4 : (List T_api_Alt)) : Option (Int × Int × Int × Int × Int × Int × Int × Bool × T_stack_Stack_int_ × (List Int) × (List T_api_Alt)) :=
  cond (p1.B == 0) ((X_run_runner_lay o0_0 o0_1 o0_2 o0_3 o0_4 o0_5 o0_6 o0_7 o0_8 o0_9 o0_10 o0_11 o0_12 o0_13 o0_14 o0_15 o0_17 o0_18 o0_19 o0_20 o0_21 o0_22 o0_23 o0_24 o0_27 o0_28 o1 o3 o4 ([p1.A])).bind fun y6 => some (y6.1, y6.2.1, y6.2.2.1, y6.2.2.2.1, y6.2.2.2.2.1, y6.2.2.2.2.2.1, y6.2.2.2.2.2.2.1, y6.2.2.2.2.2.2.2.1, y6.2.2.2.2.2.2.2.2.1, y6.2.2.2.2.2.2.2.2.2.1, y6.2.2.2.2.2.2.2.2.2.2)) ((X_run_runner_take o0_0 o0_1 o0_2 o0_3 o0_4 o0_5 o0_6 o0_7 o0_8 o0_9 o0_10 o0_11 o0_12 o0_13 o0_14 o0_15 o0_17 o0_18 o0_19 o0_20 o0_21 o0_22 o0_23 o0_24 o0_27 o0_28 o1 o3 o4).bind fun y8 => cond (decide (y8.1 < 0)) (X_run_runner_channel_J1 p1 o0_0 o0_1 o0_2 o0_3 o0_4 o0_5 o0_6 o0_7 o0_8 o0_9 o0_10 o0_11 o0_12 o0_13 o0_14 o0_15 o0_17 o0_18 o0_19 o0_20 o0_21 o0_22 o0_23 o0_24 o0_27 o0_28 o3 o4 y8 true) (X_run_runner_channel_J1 p1 o0_0 o0_1 o0_2 o0_3 o0_4 o0_5 o0_6 o0_7 o0_8 o0_9 o0_10 o0_11 o0_12 o0_13 o0_14 o0_15 o0_17 o0_18 o0_19 o0_20 o0_21 o0_22 o0_23 o0_24 o0_27 o0_28 o3 o4 y8 (decide (p1.B ≤ y8.1))))
noncomputable def X_proc_Chans_L1 (p0 : T_api_Code) (x13 : Int) (x14 : Int) : Option ((Int × Int) ⊕ (Int)) :=
  cond (decide (x14 < ((p0.Chans).length : Int))) ((lAt p0.Chans x14).bind fun y22 => some (.inl ((w64 (x13 + (if 1 > y22.Size then 1 else y22.Size))), (w64 (x14 + 1))))) ((some x13).map Sum.inr)
noncomputable def X_proc_Chans (p0 : T_api_Code) : Option (Int) :=
  Loopx (fun s : (Int × Int) => X_proc_Chans_L1 p0 s.1 s.2) (0, 0)
noncomputable def X_run_runner_none_J1 (o0_0 : (List T_api_Ins)) (o0_1 : (List T_api_Def)) (o0_2 : (List T_api_Chan)) (o0_3 : Int) (o0_4 : Int) (o0_5 : Int) (o0_6 : Int) (o0_7 : (List Int)) (o0_8 : Int) (o0_9 : Int) (o0_10 : Int) (o0_11 : Int) (o0_12 : Int) (o0_13 : Int) (o0_14 : Int) (o0_15 : (List T_api_Alt)) (o0_17 : Int) (o0_18 : Int) (o0_19 : Int) (o0_20 : Int) (o0_21 : Int) (o0_22 : Int) (o0_23 : Int) (o0_24 : Int) (o0_27 : Int) (o0_28 : Bool) (o1 : T_stack_Stack_int_) (o3 : (List Int)) (o4 : (List T_api_Alt)) (x9 : Bool) : Option (Bool × Int × Int × Int × Int × Int × Int × Int × Bool × (List Int) × (List T_api_Alt)) :=
  cond x9 (some (false, o0_18, o0_20, o0_21, o0_22, o0_23, o0_24, o0_27, o0_28, o3, o4)) ((X_run_runner_fault 4 o0_0 o0_1 o0_2 o0_3 o0_4 o0_5 o0_6 o0_7 o0_8 o0_9 o0_10 o0_11 o0_12 o0_13 o0_14 o0_15 o0_17 o0_18 o0_19 o0_20 o0_21 o0_22 o0_23 o0_24 o0_27 o0_28 o1 o3 o4).bind fun y12 => some (true, y12.1, y12.2.1, y12.2.2.1, y12.2.2.2.1, y12.2.2.2.2.1, y12.2.2.2.2.2.1, y12.2.2.2.2.2.2.1, y12.2.2.2.2.2.2.2.1, y12.2.2.2.2.2.2.2.2.1, y12.2.2.2.2.2.2.2.2.2))
noncomputable def X_run_runner_none (p1 : Int) (o0_0 : (List T_api_Ins)) (o0_1 : (List T_api_Def)) (o0_2 : (List T_api_Chan)) (o0_3 : Int) (o0_4 : Int) (o0_5 : Int) (o0_6 : Int) (o0_7 : (List Int)) (o0_8 : Int) (o0_9 : Int) (o0_10 : Int) (o0_11 : Int) (o0_12 : Int) (o0_13 : Int) (o0_14 : Int) (o0_15 : (List T_api_Alt)) (o0_17 : Int) (o0_18 : Int) (o0_19 : Int) (o0_20 : Int) (o0_21 : Int) (o0_22 : Int) (o0_23 : Int) (o0_24 : Int) (o0_27 : Int) (o0_28 : Bool) (o1 : T_stack_Stack_int_) (o3 : (List Int)) (o4 : (List T_api_Alt)) : Option (Bool × Int × Int × Int × Int × Int × Int × Int × Bool × (List Int) × (List T_api_Alt)) :=
  cond (decide (0 ≤ p1)) ((X_proc_Chans (⟨o0_0, o0_1, o0_2, o0_3, o0_4⟩ : T_api_Code)).bind fun y14 => X_run_runner_none_J1 o0_0 o0_1 o0_2 o0_3 o0_4 o0_5 o0_6 o0_7 o0_8 o0_9 o0_10 o0_11 o0_12 o0_13 o0_14 o0_15 o0_17 o0_18 o0_19 o0_20 o0_21 o0_22 o0_23 o0_24 o0_27 o0_28 o1 o3 o4 (decide (p1 < y14))) (X_run_runner_none_J1 o0_0 o0_1 o0_2 o0_3 o0_4 o0_5 o0_6 o0_7 o0_8 o0_9 o0_10 o0_11 o0_12 o0_13 o0_14 o0_15 o0_17 o0_18 o0_19 o0_20 o0_21 o0_22 o0_23 o0_24 o0_27 o0_28 o1 o3 o4 false)
noncomputable def X_code_Settle_J1 (p0 : T_api_Code) (x45 : Int) (x46 : Int) (x79 : Bool) : Option ((Int × Int) ⊕ (Int)) :=
  cond x79 ((some x45).map Sum.inr) ((lAt p0.Ins x45).bind fun y83 => some (.inl (y83.A, (w64 (x46 + 1)))))
noncomputable def X_code_Settle_L2 (p0 : T_api_Code) (p1 : Int) (x45 : Int) (x46 : Int) : Option ((Int × Int) ⊕ (Int)) :=
  cond (decide (x46 < (w64 (((p0.Ins).length : Int) + 1)))) (cond (decide (x45 < 0)) (X_code_Settle_J1 p0 x45 x46 true) (cond (decide (((p0.Ins).length : Int) ≤ x45)) (X_code_Settle_J1 p0 x45 x46 true) ((lAt p0.Ins x45).bind fun y86 => X_code_Settle_J1 p0 x45 x46 (y86.Op != 6)))) ((some p1).map Sum.inr)
noncomputable def X_code_Settle (p0 : T_api_Code) (p1 : Int) : Option (Int) :=
  Loopx (fun s : (Int × Int) => X_code_Settle_L2 p0 p1 s.1 s.2) (p1, 0)
noncomputable def X_run_runner_alt_J1 (p1 : T_api_Alt) (p2 : Int) (o0_0 : (List T_api_Ins)) (o0_1 : (List T_api_Def)) (o0_2 : (List T_api_Chan)) (o0_3 : Int) (o0_4 : Int) (x25 : Bool) (x26 : Int) (x27 : Int) (x28 : Int) (x29 : Int) (x30 : Int) (x31 : Int) (x32 : Int) (x33 : Bool) (x34 : (List Int)) (x35 : (List T_api_Alt)) : Option (Int × Int × Int × Int × Int × Int × Int × Bool × (List Int) × (List T_api_Alt)) :=
  cond x25 (some (x26, x27, x28, x29, x30, x31, x32, x33, x34, x35)) ((X_code_Settle (⟨o0_0, o0_1, o0_2, o0_3, o0_4⟩ : T_api_Code) p2).bind fun y38 => grd (((x35).length + ([(⟨p1.Kind, p1.Chan, p1.Val, p1.Slot, y38⟩ : T_api_Alt)]).length) * 40 ≤ 140737488355328) <| some (x26, x27, x28, x29, x30, x31, x32, x33, x34, (x35 ++ [(⟨p1.Kind, p1.Chan, p1.Val, p1.Slot, y38⟩ : T_api_Alt)])))
noncomputable def X_run_runner_alt (p1 : T_api_Alt) (p2 : Int) (o0_0 : (List T_api_Ins)) (o0_1 : (List T_api_Def)) (o0_2 : (List T_api_Chan)) (o0_3 : Int) (o0_4 : Int) (o0_5 : Int) (o0_6 : Int) (o0_7 : (List Int)) (o0_8 : Int) (o0_9 : Int) (o0_10 : Int) (o0_11 : Int) (o0_12 : Int) (o0_13 : Int) (o0_14 : Int) (o0_15 : (List T_api_Alt)) (o0_17 : Int) (o0_18 : Int) (o0_19 : Int) (o0_20 : Int) (o0_21 : Int) (o0_22 : Int) (o0_23 : Int) (o0_24 : Int) (o0_27 : Int) (o0_28 : Bool) (o1 : T_stack_Stack_int_) (o3 : (List Int)) (o4 : (List T_api_Alt)) : Option (Int × Int × Int × Int × Int × Int × Int × Bool × (List Int) × (List T_api_Alt)) :=
  cond (p1.Kind == 1) ((X_run_runner_none p1.Chan o0_0 o0_1 o0_2 o0_3 o0_4 o0_5 o0_6 o0_7 o0_8 o0_9 o0_10 o0_11 o0_12 o0_13 o0_14 o0_15 o0_17 o0_18 o0_19 o0_20 o0_21 o0_22 o0_23 o0_24 o0_27 o0_28 o1 o3 o4).bind fun y41 => X_run_runner_alt_J1 p1 p2 o0_0 o0_1 o0_2 o0_3 o0_4 y41.1 y41.2.1 y41.2.2.1 y41.2.2.2.1 y41.2.2.2.2.1 y41.2.2.2.2.2.1 y41.2.2.2.2.2.2.1 y41.2.2.2.2.2.2.2.1 y41.2.2.2.2.2.2.2.2.1 y41.2.2.2.2.2.2.2.2.2.1 y41.2.2.2.2.2.2.2.2.2.2) (cond (p1.Kind == 2) ((X_run_runner_none p1.Chan o0_0 o0_1 o0_2 o0_3 o0_4 o0_5 o0_6 o0_7 o0_8 o0_9 o0_10 o0_11 o0_12 o0_13 o0_14 o0_15 o0_17 o0_18 o0_19 o0_20 o0_21 o0_22 o0_23 o0_24 o0_27 o0_28 o1 o3 o4).bind fun y43 => X_run_runner_alt_J1 p1 p2 o0_0 o0_1 o0_2 o0_3 o0_4 y43.1 y43.2.1 y43.2.2.1 y43.2.2.2.1 y43.2.2.2.2.1 y43.2.2.2.2.2.1 y43.2.2.2.2.2.2.1 y43.2.2.2.2.2.2.2.1 y43.2.2.2.2.2.2.2.2.1 y43.2.2.2.2.2.2.2.2.2.1 y43.2.2.2.2.2.2.2.2.2.2) (X_run_runner_alt_J1 p1 p2 o0_0 o0_1 o0_2 o0_3 o0_4 false o0_18 o0_20 o0_21 o0_22 o0_23 o0_24 o0_27 o0_28 o3 o4))
noncomputable def X_run_runner_reckons_J1 (x32 : Int) (x33 : Int) (x34 : Int) (x35 : Int) (x36 : Int) (x37 : Int) (x38 : Int) (x39 : Int) (x40 : Bool) (x41 : Int) (x42 : (List Int)) (x43 : (List Int)) (x44 : (List T_api_Alt)) : Option (Bool × Int × Int × Int × Int × Int × Int × Int × Int × Bool × T_stack_Stack_int_ × (List Int) × (List T_api_Alt)) :=
  some (true, x32, x33, x34, x35, x36, x37, x38, x39, x40, (⟨x42, x41⟩ : T_stack_Stack_int_), x43, x44)
noncomputable def X_run_runner_reckons (p1 : T_api_Ins) (o0_0 : (List T_api_Ins)) (o0_1 : (List T_api_Def)) (o0_2 : (List T_api_Chan)) (o0_3 : Int) (o0_4 : Int) (o0_5 : Int) (o0_6 : Int) (o0_7 : (List Int)) (o0_8 : Int) (o0_9 : Int) (o0_10 : Int) (o0_11 : Int) (o0_12 : Int) (o0_13 : Int) (o0_14 : Int) (o0_15 : (List T_api_Alt)) (o0_17 : Int) (o0_18 : Int) (o0_19 : Int) (o0_20 : Int) (o0_21 : Int) (o0_22 : Int) (o0_23 : Int) (o0_24 : Int) (o0_27 : Int) (o0_28 : Bool) (o1 : T_stack_Stack_int_) (o3 : (List Int)) (o4 : (List T_api_Alt)) : Option (Bool × Int × Int × Int × Int × Int × Int × Int × Int × Bool × T_stack_Stack_int_ × (List Int) × (List T_api_Alt)) :=
  cond (p1.Op == 2) ((X_run_runner_lay o0_0 o0_1 o0_2 o0_3 o0_4 o0_5 o0_6 o0_7 o0_8 o0_9 o0_10 o0_11 o0_12 o0_13 o0_14 o0_15 o0_17 o0_18 o0_19 o0_20 o0_21 o0_22 o0_23 o0_24 o0_27 o0_28 o1 o3 o4 ([p1.A])).bind fun y46 => X_run_runner_reckons_J1 o0_17 y46.1 y46.2.1 y46.2.2.1 y46.2.2.2.1 y46.2.2.2.2.1 y46.2.2.2.2.2.1 y46.2.2.2.2.2.2.1 y46.2.2.2.2.2.2.2.1 y46.2.2.2.2.2.2.2.2.1.most y46.2.2.2.2.2.2.2.2.1.l y46.2.2.2.2.2.2.2.2.2.1 y46.2.2.2.2.2.2.2.2.2.2) (cond (p1.Op == 3) ((X_run_runner_slot p1.A o0_0 o0_1 o0_2 o0_3 o0_4 o0_5 o0_6 o0_7 o0_8 o0_9 o0_10 o0_11 o0_12 o0_13 o0_14 o0_15 o0_17 o0_18 o0_19 o0_20 o0_21 o0_22 o0_23 o0_24 o0_27 o0_28 o1 o3 o4).bind fun y48 => (X_run_runner_lay o0_0 o0_1 o0_2 o0_3 o0_4 o0_5 o0_6 o0_7 o0_8 o0_9 o0_10 o0_11 o0_12 o0_13 o0_14 o0_15 o0_17 o0_18 o0_19 o0_20 o0_21 o0_22 o0_23 o0_24 o0_27 o0_28 o1 o3 o4 ([y48])).bind fun y49 => X_run_runner_reckons_J1 o0_17 y49.1 y49.2.1 y49.2.2.1 y49.2.2.2.1 y49.2.2.2.2.1 y49.2.2.2.2.2.1 y49.2.2.2.2.2.2.1 y49.2.2.2.2.2.2.2.1 y49.2.2.2.2.2.2.2.2.1.most y49.2.2.2.2.2.2.2.2.1.l y49.2.2.2.2.2.2.2.2.2.1 y49.2.2.2.2.2.2.2.2.2.2) (cond (p1.Op == 5) ((X_run_runner_reckon p1.A o0_0 o0_1 o0_2 o0_3 o0_4 o0_5 o0_6 o0_7 o0_8 o0_9 o0_10 o0_11 o0_12 o0_13 o0_14 o0_15 o0_17 o0_18 o0_19 o0_20 o0_21 o0_22 o0_23 o0_24 o0_27 o0_28 o1 o3 o4).bind fun y51 => X_run_runner_reckons_J1 o0_17 y51.1 y51.2.1 y51.2.2.1 y51.2.2.2.1 y51.2.2.2.2.1 y51.2.2.2.2.2.1 y51.2.2.2.2.2.2.1 y51.2.2.2.2.2.2.2.1 y51.2.2.2.2.2.2.2.2.1.most y51.2.2.2.2.2.2.2.2.1.l y51.2.2.2.2.2.2.2.2.2.1 y51.2.2.2.2.2.2.2.2.2.2) (cond (p1.Op == 6) ((X_run_runner_jump p1.A true o0_0 o0_1 o0_2 o0_3 o0_4 o0_5 o0_6 o0_7 o0_8 o0_9 o0_10 o0_11 o0_12 o0_13 o0_14 o0_15 o0_17 o0_18 o0_19 o0_20 o0_21 o0_22 o0_23 o0_24 o0_27 o0_28 o1 o3 o4).bind fun y53 => X_run_runner_reckons_J1 y53 o0_18 o0_20 o0_21 o0_22 o0_23 o0_24 o0_27 o0_28 o1.most o1.l o3 o4) (cond (p1.Op == 7) ((X_run_runner_take o0_0 o0_1 o0_2 o0_3 o0_4 o0_5 o0_6 o0_7 o0_8 o0_9 o0_10 o0_11 o0_12 o0_13 o0_14 o0_15 o0_17 o0_18 o0_19 o0_20 o0_21 o0_22 o0_23 o0_24 o0_27 o0_28 o1 o3 o4).bind fun y55 => (X_run_runner_jump p1.A (y55.1 == 0) o0_0 o0_1 o0_2 o0_3 o0_4 o0_5 o0_6 o0_7 o0_8 o0_9 o0_10 o0_11 o0_12 o0_13 o0_14 o0_15 o0_17 o0_18 o0_19 o0_20 o0_21 o0_22 o0_23 o0_24 o0_27 o0_28 y55.2 o3 o4).bind fun y56 => X_run_runner_reckons_J1 y56 o0_18 o0_20 o0_21 o0_22 o0_23 o0_24 o0_27 o0_28 y55.2.most y55.2.l o3 o4) (cond (p1.Op == 8) ((X_run_runner_take o0_0 o0_1 o0_2 o0_3 o0_4 o0_5 o0_6 o0_7 o0_8 o0_9 o0_10 o0_11 o0_12 o0_13 o0_14 o0_15 o0_17 o0_18 o0_19 o0_20 o0_21 o0_22 o0_23 o0_24 o0_27 o0_28 o1 o3 o4).bind fun y58 => (X_run_runner_jump p1.A (y58.1 != 0) o0_0 o0_1 o0_2 o0_3 o0_4 o0_5 o0_6 o0_7 o0_8 o0_9 o0_10 o0_11 o0_12 o0_13 o0_14 o0_15 o0_17 o0_18 o0_19 o0_20 o0_21 o0_22 o0_23 o0_24 o0_27 o0_28 y58.2 o3 o4).bind fun y59 => X_run_runner_reckons_J1 y59 o0_18 o0_20 o0_21 o0_22 o0_23 o0_24 o0_27 o0_28 y58.2.most y58.2.l o3 o4) (cond (p1.Op == 9) ((X_run_runner_channel p1 o0_0 o0_1 o0_2 o0_3 o0_4 o0_5 o0_6 o0_7 o0_8 o0_9 o0_10 o0_11 o0_12 o0_13 o0_14 o0_15 o0_17 o0_18 o0_19 o0_20 o0_21 o0_22 o0_23 o0_24 o0_27 o0_28 o1 o3 o4).bind fun y61 => X_run_runner_reckons_J1 o0_17 y61.1 y61.2.1 y61.2.2.1 y61.2.2.2.1 y61.2.2.2.2.1 y61.2.2.2.2.2.1 y61.2.2.2.2.2.2.1 y61.2.2.2.2.2.2.2.1 y61.2.2.2.2.2.2.2.2.1.most y61.2.2.2.2.2.2.2.2.1.l y61.2.2.2.2.2.2.2.2.2.1 y61.2.2.2.2.2.2.2.2.2.2) (cond (p1.Op == 25) (X_run_runner_reckons_J1 o0_17 o0_18 o0_20 o0_21 o0_22 o0_23 o0_24 o0_27 o0_28 o1.most o1.l o3 o4) (cond (p1.Op == 19) ((X_run_runner_take o0_0 o0_1 o0_2 o0_3 o0_4 o0_5 o0_6 o0_7 o0_8 o0_9 o0_10 o0_11 o0_12 o0_13 o0_14 o0_15 o0_17 o0_18 o0_19 o0_20 o0_21 o0_22 o0_23 o0_24 o0_27 o0_28 o1 o3 o4).bind fun y64 => (X_run_runner_alt (⟨1, y64.1, 0, p1.A, 0⟩ : T_api_Alt) p1.B o0_0 o0_1 o0_2 o0_3 o0_4 o0_5 o0_6 o0_7 o0_8 o0_9 o0_10 o0_11 o0_12 o0_13 o0_14 o0_15 o0_17 o0_18 o0_19 o0_20 o0_21 o0_22 o0_23 o0_24 o0_27 o0_28 y64.2 o3 o4).bind fun y65 => X_run_runner_reckons_J1 o0_17 y65.1 y65.2.1 y65.2.2.1 y65.2.2.2.1 y65.2.2.2.2.1 y65.2.2.2.2.2.1 y65.2.2.2.2.2.2.1 y65.2.2.2.2.2.2.2.1 y64.2.most y64.2.l y65.2.2.2.2.2.2.2.2.1 y65.2.2.2.2.2.2.2.2.2) (cond (p1.Op == 20) ((X_run_runner_take o0_0 o0_1 o0_2 o0_3 o0_4 o0_5 o0_6 o0_7 o0_8 o0_9 o0_10 o0_11 o0_12 o0_13 o0_14 o0_15 o0_17 o0_18 o0_19 o0_20 o0_21 o0_22 o0_23 o0_24 o0_27 o0_28 o1 o3 o4).bind fun y68 => (X_run_runner_take o0_0 o0_1 o0_2 o0_3 o0_4 o0_5 o0_6 o0_7 o0_8 o0_9 o0_10 o0_11 o0_12 o0_13 o0_14 o0_15 o0_17 o0_18 o0_19 o0_20 o0_21 o0_22 o0_23 o0_24 o0_27 o0_28 y68.2 o3 o4).bind fun y69 => (X_run_runner_alt (⟨2, y69.1, y68.1, 0, 0⟩ : T_api_Alt) p1.A o0_0 o0_1 o0_2 o0_3 o0_4 o0_5 o0_6 o0_7 o0_8 o0_9 o0_10 o0_11 o0_12 o0_13 o0_14 o0_15 o0_17 o0_18 o0_19 o0_20 o0_21 o0_22 o0_23 o0_24 o0_27 o0_28 y69.2 o3 o4).bind fun y70 => X_run_runner_reckons_J1 o0_17 y70.1 y70.2.1 y70.2.2.1 y70.2.2.2.1 y70.2.2.2.2.1 y70.2.2.2.2.2.1 y70.2.2.2.2.2.2.1 y70.2.2.2.2.2.2.2.1 y69.2.most y69.2.l y70.2.2.2.2.2.2.2.2.1 y70.2.2.2.2.2.2.2.2.2) (cond (p1.Op == 21) ((X_run_runner_take o0_0 o0_1 o0_2 o0_3 o0_4 o0_5 o0_6 o0_7 o0_8 o0_9 o0_10 o0_11 o0_12 o0_13 o0_14 o0_15 o0_17 o0_18 o0_19 o0_20 o0_21 o0_22 o0_23 o0_24 o0_27 o0_28 o1 o3 o4).bind fun y72 => (X_run_runner_alt (⟨3, 0, y72.1, 0, 0⟩ : T_api_Alt) p1.A o0_0 o0_1 o0_2 o0_3 o0_4 o0_5 o0_6 o0_7 o0_8 o0_9 o0_10 o0_11 o0_12 o0_13 o0_14 o0_15 o0_17 o0_18 o0_19 o0_20 o0_21 o0_22 o0_23 o0_24 o0_27 o0_28 y72.2 o3 o4).bind fun y73 => X_run_runner_reckons_J1 o0_17 y73.1 y73.2.1 y73.2.2.1 y73.2.2.2.1 y73.2.2.2.2.1 y73.2.2.2.2.2.1 y73.2.2.2.2.2.2.1 y73.2.2.2.2.2.2.2.1 y72.2.most y72.2.l y73.2.2.2.2.2.2.2.2.1 y73.2.2.2.2.2.2.2.2.2) (cond (p1.Op == 22) ((X_run_runner_alt (⟨4, 0, 0, 0, 0⟩ : T_api_Alt) p1.A o0_0 o0_1 o0_2 o0_3 o0_4 o0_5 o0_6 o0_7 o0_8 o0_9 o0_10 o0_11 o0_12 o0_13 o0_14 o0_15 o0_17 o0_18 o0_19 o0_20 o0_21 o0_22 o0_23 o0_24 o0_27 o0_28 o1 o3 o4).bind fun y75 => X_run_runner_reckons_J1 o0_17 y75.1 y75.2.1 y75.2.2.1 y75.2.2.2.1 y75.2.2.2.2.1 y75.2.2.2.2.2.1 y75.2.2.2.2.2.2.1 y75.2.2.2.2.2.2.2.1 o1.most o1.l y75.2.2.2.2.2.2.2.2.1 y75.2.2.2.2.2.2.2.2.2) (some (false, o0_17, o0_18, o0_20, o0_21, o0_22, o0_23, o0_24, o0_27, o0_28, o1, o3, o4)))))))))))))
noncomputable def X_run_runner_ends_J3 (p1 : T_api_Ins) (o0_0 : (List T_api_Ins)) (o0_1 : (List T_api_Def)) (o0_2 : (List T_api_Chan)) (o0_3 : Int) (o0_4 : Int) (o0_5 : Int) (o0_6 : Int) (o0_7 : (List Int)) (o0_8 : Int) (o0_9 : Int) (o0_10 : Int) (o0_11 : Int) (o0_12 : Int) (o0_13 : Int) (o0_14 : Int) (o0_15 : (List T_api_Alt)) (o0_17 : Int) (o0_18 : Int) (o0_19 : Int) (o0_20 : Int) (o0_21 : Int) (o0_24 : Int) (o0_27 : Int) (o0_28 : Bool) (o3 : (List Int)) (y2 : Int) (y11 : Int × T_stack_Stack_int_) (x13 : Int) : Option ((Int × Int × Int × Int × Int × Int × Int × Bool × T_stack_Stack_int_ × (List Int) × (List T_api_Alt)) ⊕ (Int × Int × Int × Bool × T_stack_Stack_int_ × (List T_api_Alt) × (List Int)) ⊕ (Int × Int × Bool × (List T_api_Alt))) :=
  (X_run_runner_end x13 y2 o0_0 o0_1 o0_2 o0_3 o0_4 o0_5 o0_6 o0_7 o0_8 o0_9 o0_10 o0_11 o0_12 o0_13 o0_14 o0_15 o0_17 o0_18 o0_19 o0_20 o0_21 y11.1 p1.A o0_24 o0_27 o0_28 y11.2 o3 ([] : List T_api_Alt)).bind fun y14 => some (.inl (y14.1, y14.2.1, o0_21, y11.1, p1.A, o0_24, o0_27, y14.2.2, y11.2, o3, ([] : List T_api_Alt)))
noncomputable def X_run_runner_ends_J5 (o0_0 : (List T_api_Ins)) (o0_1 : (List T_api_Def)) (o0_2 : (List T_api_Chan)) (o0_3 : Int) (o0_4 : Int) (o0_5 : Int) (o0_6 : Int) (o0_7 : (List Int)) (o0_8 : Int) (o0_9 : Int) (o0_10 : Int) (o0_11 : Int) (o0_12 : Int) (o0_13 : Int) (o0_14 : Int) (o0_15 : (List T_api_Alt)) (o0_17 : Int) (o0_18 : Int) (o0_19 : Int) (o0_20 : Int) (o0_21 : Int) (o0_23 : Int) (o0_24 : Int) (o0_27 : Int) (o0_28 : Bool) (o3 : (List Int)) (y2 : Int) (y36 : Int × T_stack_Stack_int_) (x38 : Int) : Option ((Int × Int × Int × Int × Int × Int × Int × Bool × T_stack_Stack_int_ × (List Int) × (List T_api_Alt)) ⊕ (Int × Int × Int × Bool × T_stack_Stack_int_ × (List T_api_Alt) × (List Int)) ⊕ (Int × Int × Bool × (List T_api_Alt))) :=
  (X_run_runner_end x38 y2 o0_0 o0_1 o0_2 o0_3 o0_4 o0_5 o0_6 o0_7 o0_8 o0_9 o0_10 o0_11 o0_12 o0_13 o0_14 o0_15 o0_17 o0_18 o0_19 o0_20 o0_21 y36.1 o0_23 o0_24 o0_27 o0_28 y36.2 o3 ([] : List T_api_Alt)).bind fun y39 => some (.inl (y39.1, y39.2.1, o0_21, y36.1, o0_23, o0_24, o0_27, y39.2.2, y36.2, o3, ([] : List T_api_Alt)))
noncomputable def X_run_runner_ends_J4 (p1 : T_api_Ins) (o0_0 : (List T_api_Ins)) (o0_1 : (List T_api_Def)) (o0_2 : (List T_api_Chan)) (o0_3 : Int) (o0_4 : Int) (o0_5 : Int) (o0_6 : Int) (o0_7 : (List Int)) (o0_8 : Int) (o0_9 : Int) (o0_10 : Int) (o0_11 : Int) (o0_12 : Int) (o0_13 : Int) (o0_14 : Int) (o0_15 : (List T_api_Alt)) (o0_17 : Int) (o0_18 : Int) (o0_19 : Int) (o0_20 : Int) (o0_21 : Int) (o0_22 : Int) (o0_23 : Int) (o0_24 : Int) (o0_27 : Int) (o0_28 : Bool) (o1 : T_stack_Stack_int_) (o3 : (List Int)) (o4 : (List T_api_Alt)) (y2 : Int) (x33 : Bool) : Option ((Int × Int × Int × Int × Int × Int × Int × Bool × T_stack_Stack_int_ × (List Int) × (List T_api_Alt)) ⊕ (Int × Int × Int × Bool × T_stack_Stack_int_ × (List T_api_Alt) × (List Int)) ⊕ (Int × Int × Bool × (List T_api_Alt))) :=
  cond x33 ((X_run_runner_take o0_0 o0_1 o0_2 o0_3 o0_4 o0_5 o0_6 o0_7 o0_8 o0_9 o0_10 o0_11 o0_12 o0_13 o0_14 o0_15 o0_17 o0_18 o0_19 o0_20 o0_21 o0_22 o0_23 o0_24 o0_27 o0_28 o1 o3 ([] : List T_api_Alt)).bind fun y36 => cond (p1.Op == 15) (X_run_runner_ends_J5 o0_0 o0_1 o0_2 o0_3 o0_4 o0_5 o0_6 o0_7 o0_8 o0_9 o0_10 o0_11 o0_12 o0_13 o0_14 o0_15 o0_17 o0_18 o0_19 o0_20 o0_21 o0_23 o0_24 o0_27 o0_28 o3 y2 y36 8) (X_run_runner_ends_J5 o0_0 o0_1 o0_2 o0_3 o0_4 o0_5 o0_6 o0_7 o0_8 o0_9 o0_10 o0_11 o0_12 o0_13 o0_14 o0_15 o0_17 o0_18 o0_19 o0_20 o0_21 o0_23 o0_24 o0_27 o0_28 o3 y2 y36 6)) (cond (p1.Op == 14) ((X_stack_Stack_int_Take p1.B o1).bind fun y43 => (X_run_runner_end 7 y2 o0_0 o0_1 o0_2 o0_3 o0_4 o0_5 o0_6 o0_7 o0_8 o0_9 o0_10 o0_11 o0_12 o0_13 o0_14 o0_15 o0_17 o0_18 o0_19 o0_20 o0_21 o0_22 o0_23 p1.A o0_27 o0_28 y43.2.2 y43.1 ([] : List T_api_Alt)).bind fun y44 => some (.inr (.inl (y44.1, y44.2.1, p1.A, y44.2.2, y43.2.2, ([] : List T_api_Alt), y43.1)))) (cond (p1.Op == 16) ((X_run_runner_take o0_0 o0_1 o0_2 o0_3 o0_4 o0_5 o0_6 o0_7 o0_8 o0_9 o0_10 o0_11 o0_12 o0_13 o0_14 o0_15 o0_17 o0_18 o0_19 o0_20 o0_21 o0_22 o0_23 o0_24 o0_27 o0_28 o1 o3 ([] : List T_api_Alt)).bind fun y52 => cond (y52.1 == 0) ((X_run_runner_fault 6 o0_0 o0_1 o0_2 o0_3 o0_4 o0_5 o0_6 o0_7 o0_8 o0_9 o0_10 o0_11 o0_12 o0_13 o0_14 o0_15 o0_17 o0_18 o0_19 o0_20 o0_21 o0_22 o0_23 o0_24 o0_27 o0_28 y52.2 o3 ([] : List T_api_Alt)).bind fun y55 => some (.inl (y55.1, y55.2.1, y55.2.2.1, y55.2.2.2.1, y55.2.2.2.2.1, y55.2.2.2.2.2.1, y55.2.2.2.2.2.2.1, y55.2.2.2.2.2.2.2.1, y52.2, y55.2.2.2.2.2.2.2.2.1, y55.2.2.2.2.2.2.2.2.2))) ((X_run_runner_end 1 y2 o0_0 o0_1 o0_2 o0_3 o0_4 o0_5 o0_6 o0_7 o0_8 o0_9 o0_10 o0_11 o0_12 o0_13 o0_14 o0_15 o0_17 o0_18 o0_19 o0_20 o0_21 o0_22 o0_23 o0_24 o0_27 o0_28 y52.2 o3 ([] : List T_api_Alt)).bind fun y56 => some (.inl (y56.1, y56.2.1, o0_21, o0_22, o0_23, o0_24, o0_27, y56.2.2, y52.2, o3, ([] : List T_api_Alt))))) (cond (p1.Op == 17) ((X_run_runner_end 1 y2 o0_0 o0_1 o0_2 o0_3 o0_4 o0_5 o0_6 o0_7 o0_8 o0_9 o0_10 o0_11 o0_12 o0_13 o0_14 o0_15 o0_17 o0_18 o0_19 o0_20 o0_21 o0_22 o0_23 o0_24 o0_27 o0_28 o1 o3 ([] : List T_api_Alt)).bind fun y58 => some (.inl (y58.1, y58.2.1, o0_21, o0_22, o0_23, o0_24, o0_27, y58.2.2, o1, o3, ([] : List T_api_Alt)))) (cond (p1.Op == 18) ((X_run_runner_end 9 0 o0_0 o0_1 o0_2 o0_3 o0_4 o0_5 o0_6 o0_7 o0_8 o0_9 o0_10 o0_11 o0_12 o0_13 o0_14 o0_15 o0_17 o0_18 o0_19 o0_20 o0_21 o0_22 o0_23 o0_24 o0_27 o0_28 o1 o3 ([] : List T_api_Alt)).bind fun y60 => some (.inl (y60.1, y60.2.1, o0_21, o0_22, o0_23, o0_24, o0_27, y60.2.2, o1, o3, ([] : List T_api_Alt)))) (cond (p1.Op == 23) ((X_run_runner_end 10 0 o0_0 o0_1 o0_2 o0_3 o0_4 o0_5 o0_6 o0_7 o0_8 o0_9 o0_10 o0_11 o0_12 o0_13 o0_14 o0_15 o0_17 o0_18 o0_19 o0_20 o0_21 o0_22 o0_23 o0_24 o0_27 o0_28 o1 o3 o4).bind fun y62 => some (.inr (.inr (y62.1, y62.2.1, y62.2.2, o4)))) (some (.inr (.inr (o0_18, o0_20, o0_28, ([] : List T_api_Alt))))))))))
noncomputable def X_run_runner_ends_J2 (p1 : T_api_Ins) (o0_0 : (List T_api_Ins)) (o0_1 : (List T_api_Def)) (o0_2 : (List T_api_Chan)) (o0_3 : Int) (o0_4 : Int) (o0_5 : Int) (o0_6 : Int) (o0_7 : (List Int)) (o0_8 : Int) (o0_9 : Int) (o0_10 : Int) (o0_11 : Int) (o0_12 : Int) (o0_13 : Int) (o0_14 : Int) (o0_15 : (List T_api_Alt)) (o0_17 : Int) (o0_18 : Int) (o0_19 : Int) (o0_20 : Int) (o0_21 : Int) (o0_22 : Int) (o0_23 : Int) (o0_24 : Int) (o0_27 : Int) (o0_28 : Bool) (o1 : T_stack_Stack_int_) (o3 : (List Int)) (o4 : (List T_api_Alt)) (y2 : Int) (x8 : Bool) : Option ((Int × Int × Int × Int × Int × Int × Int × Bool × T_stack_Stack_int_ × (List Int) × (List T_api_Alt)) ⊕ (Int × Int × Int × Bool × T_stack_Stack_int_ × (List T_api_Alt) × (List Int)) ⊕ (Int × Int × Bool × (List T_api_Alt))) :=
  cond x8 ((X_run_runner_take o0_0 o0_1 o0_2 o0_3 o0_4 o0_5 o0_6 o0_7 o0_8 o0_9 o0_10 o0_11 o0_12 o0_13 o0_14 o0_15 o0_17 o0_18 o0_19 o0_20 o0_21 o0_22 o0_23 o0_24 o0_27 o0_28 o1 o3 ([] : List T_api_Alt)).bind fun y11 => cond (p1.Op == 12) (X_run_runner_ends_J3 p1 o0_0 o0_1 o0_2 o0_3 o0_4 o0_5 o0_6 o0_7 o0_8 o0_9 o0_10 o0_11 o0_12 o0_13 o0_14 o0_15 o0_17 o0_18 o0_19 o0_20 o0_21 o0_24 o0_27 o0_28 o3 y2 y11 3) (X_run_runner_ends_J3 p1 o0_0 o0_1 o0_2 o0_3 o0_4 o0_5 o0_6 o0_7 o0_8 o0_9 o0_10 o0_11 o0_12 o0_13 o0_14 o0_15 o0_17 o0_18 o0_19 o0_20 o0_21 o0_24 o0_27 o0_28 o3 y2 y11 2)) (cond (p1.Op == 10) ((X_run_runner_take o0_0 o0_1 o0_2 o0_3 o0_4 o0_5 o0_6 o0_7 o0_8 o0_9 o0_10 o0_11 o0_12 o0_13 o0_14 o0_15 o0_17 o0_18 o0_19 o0_20 o0_21 o0_22 o0_23 o0_24 o0_27 o0_28 o1 o3 ([] : List T_api_Alt)).bind fun y18 => (X_run_runner_take o0_0 o0_1 o0_2 o0_3 o0_4 o0_5 o0_6 o0_7 o0_8 o0_9 o0_10 o0_11 o0_12 o0_13 o0_14 o0_15 o0_17 o0_18 o0_19 o0_20 o0_21 y18.1 o0_23 o0_24 o0_27 o0_28 y18.2 o3 ([] : List T_api_Alt)).bind fun y20 => (X_run_runner_none y20.1 o0_0 o0_1 o0_2 o0_3 o0_4 o0_5 o0_6 o0_7 o0_8 o0_9 o0_10 o0_11 o0_12 o0_13 o0_14 o0_15 o0_17 o0_18 o0_19 o0_20 y20.1 y18.1 o0_23 o0_24 o0_27 o0_28 y20.2 o3 ([] : List T_api_Alt)).bind fun y22 => cond (!y22.1) ((X_run_runner_end 4 y2 o0_0 o0_1 o0_2 o0_3 o0_4 o0_5 o0_6 o0_7 o0_8 o0_9 o0_10 o0_11 o0_12 o0_13 o0_14 o0_15 o0_17 y22.2.1 o0_19 y22.2.2.1 y22.2.2.2.1 y22.2.2.2.2.1 y22.2.2.2.2.2.1 y22.2.2.2.2.2.2.1 y22.2.2.2.2.2.2.2.1 y22.2.2.2.2.2.2.2.2.1 y20.2 y22.2.2.2.2.2.2.2.2.2.1 y22.2.2.2.2.2.2.2.2.2.2).bind fun y24 => some (.inl (y24.1, y24.2.1, y22.2.2.2.1, y22.2.2.2.2.1, y22.2.2.2.2.2.1, y22.2.2.2.2.2.2.1, y22.2.2.2.2.2.2.2.1, y24.2.2, y20.2, y22.2.2.2.2.2.2.2.2.2.1, y22.2.2.2.2.2.2.2.2.2.2))) (some (.inl (y22.2.1, y22.2.2.1, y22.2.2.2.1, y22.2.2.2.2.1, y22.2.2.2.2.2.1, y22.2.2.2.2.2.2.1, y22.2.2.2.2.2.2.2.1, y22.2.2.2.2.2.2.2.2.1, y20.2, y22.2.2.2.2.2.2.2.2.2.1, y22.2.2.2.2.2.2.2.2.2.2)))) (cond (p1.Op == 11) ((X_run_runner_take o0_0 o0_1 o0_2 o0_3 o0_4 o0_5 o0_6 o0_7 o0_8 o0_9 o0_10 o0_11 o0_12 o0_13 o0_14 o0_15 o0_17 o0_18 o0_19 o0_20 o0_21 o0_22 o0_23 o0_24 o0_27 o0_28 o1 o3 ([] : List T_api_Alt)).bind fun y27 => (X_run_runner_none y27.1 o0_0 o0_1 o0_2 o0_3 o0_4 o0_5 o0_6 o0_7 o0_8 o0_9 o0_10 o0_11 o0_12 o0_13 o0_14 o0_15 o0_17 o0_18 o0_19 o0_20 y27.1 o0_22 p1.A o0_24 o0_27 o0_28 y27.2 o3 ([] : List T_api_Alt)).bind fun y29 => cond (!y29.1) ((X_run_runner_end 5 y2 o0_0 o0_1 o0_2 o0_3 o0_4 o0_5 o0_6 o0_7 o0_8 o0_9 o0_10 o0_11 o0_12 o0_13 o0_14 o0_15 o0_17 y29.2.1 o0_19 y29.2.2.1 y29.2.2.2.1 y29.2.2.2.2.1 y29.2.2.2.2.2.1 y29.2.2.2.2.2.2.1 y29.2.2.2.2.2.2.2.1 y29.2.2.2.2.2.2.2.2.1 y27.2 y29.2.2.2.2.2.2.2.2.2.1 y29.2.2.2.2.2.2.2.2.2.2).bind fun y31 => some (.inl (y31.1, y31.2.1, y29.2.2.2.1, y29.2.2.2.2.1, y29.2.2.2.2.2.1, y29.2.2.2.2.2.2.1, y29.2.2.2.2.2.2.2.1, y31.2.2, y27.2, y29.2.2.2.2.2.2.2.2.2.1, y29.2.2.2.2.2.2.2.2.2.2))) (some (.inl (y29.2.1, y29.2.2.1, y29.2.2.2.1, y29.2.2.2.2.1, y29.2.2.2.2.2.1, y29.2.2.2.2.2.2.1, y29.2.2.2.2.2.2.2.1, y29.2.2.2.2.2.2.2.2.1, y27.2, y29.2.2.2.2.2.2.2.2.2.1, y29.2.2.2.2.2.2.2.2.2.2)))) (cond (p1.Op == 13) (X_run_runner_ends_J4 p1 o0_0 o0_1 o0_2 o0_3 o0_4 o0_5 o0_6 o0_7 o0_8 o0_9 o0_10 o0_11 o0_12 o0_13 o0_14 o0_15 o0_17 o0_18 o0_19 o0_20 o0_21 o0_22 o0_23 o0_24 o0_27 o0_28 o1 o3 o4 y2 (p1.Op == 13)) (X_run_runner_ends_J4 p1 o0_0 o0_1 o0_2 o0_3 o0_4 o0_5 o0_6 o0_7 o0_8 o0_9 o0_10 o0_11 o0_12 o0_13 o0_14 o0_15 o0_17 o0_18 o0_19 o0_20 o0_21 o0_22 o0_23 o0_24 o0_27 o0_28 o1 o3 o4 y2 (p1.Op == 15)))))
noncomputable def X_run_runner_ends_J1 (p1 : T_api_Ins) (p2 : Int) (o0_0 : (List T_api_Ins)) (o0_1 : (List T_api_Def)) (o0_2 : (List T_api_Chan)) (o0_3 : Int) (o0_4 : Int) (o0_5 : Int) (o0_6 : Int) (o0_7 : (List Int)) (o0_8 : Int) (o0_9 : Int) (o0_10 : Int) (o0_11 : Int) (o0_12 : Int) (o0_13 : Int) (o0_14 : Int) (o0_15 : (List T_api_Alt)) (o0_17 : Int) (o0_18 : Int) (o0_19 : Int) (o0_20 : Int) (o0_21 : Int) (o0_22 : Int) (o0_23 : Int) (o0_24 : Int) (o0_27 : Int) (o0_28 : Bool) (o1 : T_stack_Stack_int_) (o3 : (List Int)) (o4 : (List T_api_Alt)) (y2 : Int) (x4 : Bool) : Option ((Int × Int × Int × Int × Int × Int × Int × Bool × T_stack_Stack_int_ × (List Int) × (List T_api_Alt)) ⊕ (Int × Int × Int × Bool × T_stack_Stack_int_ × (List T_api_Alt) × (List Int)) ⊕ (Int × Int × Bool × (List T_api_Alt))) :=
  cond x4 ((X_run_runner_end 1 p2 o0_0 o0_1 o0_2 o0_3 o0_4 o0_5 o0_6 o0_7 o0_8 o0_9 o0_10 o0_11 o0_12 o0_13 o0_14 o0_15 o0_17 o0_18 o0_19 o0_20 o0_21 o0_22 o0_23 o0_24 o0_27 o0_28 o1 o3 ([] : List T_api_Alt)).bind fun y6 => some (.inl (y6.1, y6.2.1, o0_21, o0_22, o0_23, o0_24, o0_27, y6.2.2, o1, o3, ([] : List T_api_Alt)))) (cond (p1.Op == 4) (X_run_runner_ends_J2 p1 o0_0 o0_1 o0_2 o0_3 o0_4 o0_5 o0_6 o0_7 o0_8 o0_9 o0_10 o0_11 o0_12 o0_13 o0_14 o0_15 o0_17 o0_18 o0_19 o0_20 o0_21 o0_22 o0_23 o0_24 o0_27 o0_28 o1 o3 o4 y2 (p1.Op == 4)) (X_run_runner_ends_J2 p1 o0_0 o0_1 o0_2 o0_3 o0_4 o0_5 o0_6 o0_7 o0_8 o0_9 o0_10 o0_11 o0_12 o0_13 o0_14 o0_15 o0_17 o0_18 o0_19 o0_20 o0_21 o0_22 o0_23 o0_24 o0_27 o0_28 o1 o3 o4 y2 (p1.Op == 12)))
noncomputable def X_run_runner_ends (p1 : T_api_Ins) (p2 : Int) (o0_0 : (List T_api_Ins)) (o0_1 : (List T_api_Def)) (o0_2 : (List T_api_Chan)) (o0_3 : Int) (o0_4 : Int) (o0_5 : Int) (o0_6 : Int) (o0_7 : (List Int)) (o0_8 : Int) (o0_9 : Int) (o0_10 : Int) (o0_11 : Int) (o0_12 : Int) (o0_13 : Int) (o0_14 : Int) (o0_15 : (List T_api_Alt)) (o0_17 : Int) (o0_18 : Int) (o0_19 : Int) (o0_20 : Int) (o0_21 : Int) (o0_22 : Int) (o0_23 : Int) (o0_24 : Int) (o0_27 : Int) (o0_28 : Bool) (o1 : T_stack_Stack_int_) (o3 : (List Int)) (o4 : (List T_api_Alt)) : Option ((Int × Int × Int × Int × Int × Int × Int × Bool × T_stack_Stack_int_ × (List Int) × (List T_api_Alt)) ⊕ (Int × Int × Int × Bool × T_stack_Stack_int_ × (List T_api_Alt) × (List Int)) ⊕ (Int × Int × Bool × (List T_api_Alt))) :=
  (X_code_Settle (⟨o0_0, o0_1, o0_2, o0_3, o0_4⟩ : T_api_Code) (w64 (p2 + 1))).bind fun y2 => cond (p1.Op == 1) (X_run_runner_ends_J1 p1 p2 o0_0 o0_1 o0_2 o0_3 o0_4 o0_5 o0_6 o0_7 o0_8 o0_9 o0_10 o0_11 o0_12 o0_13 o0_14 o0_15 o0_17 o0_18 o0_19 o0_20 o0_21 o0_22 o0_23 o0_24 o0_27 o0_28 o1 o3 o4 y2 (p1.Op == 1)) (X_run_runner_ends_J1 p1 p2 o0_0 o0_1 o0_2 o0_3 o0_4 o0_5 o0_6 o0_7 o0_8 o0_9 o0_10 o0_11 o0_12 o0_13 o0_14 o0_15 o0_17 o0_18 o0_19 o0_20 o0_21 o0_22 o0_23 o0_24 o0_27 o0_28 o1 o3 o4 y2 (p1.Op == 24))
noncomputable def X_run_Step_J2 (y14 : T_api_Ins) (x94 : Int) (x95 : Int) (x96 : Int) (x97 : Int) (x98 : Int) (x99 : Int) (x100 : Int) (x101 : Int) (x102 : Bool) (x103 : Int) (x104 : (List Int)) (x105 : (List Int)) (x106 : (List T_api_Alt)) : Option (T_api_Effect) :=
  some (⟨x95, y14.A, x96, x97, x98, x99, x100, x105, x106, x101⟩ : T_api_Effect)
noncomputable def X_run_Step_J3 (x107 : Int) (x147 : Int) (x148 : Int) (x149 : Int) (x150 : Int) (x151 : Int) (x152 : Int) (x153 : Int) (x154 : Int) (x155 : Bool) (x156 : Int) (x157 : (List Int)) (x158 : (List Int)) (x159 : (List T_api_Alt)) : Option ((Int × Int × Int × Int × Int × Int × Int × Int × Int × Bool × Int × (List Int) × (List Int) × (List T_api_Alt)) ⊕ (T_api_Effect)) :=
  some (.inl ((w64 (x107 + 1)), x147, x148, x149, x150, x151, x152, x153, x154, x155, x156, x157, x158, x159))
noncomputable def X_run_Step_J4 (p0 : T_api_Code) (p1 : T_api_Proc) (y14 : T_api_Ins) (x107 : Int) (x108 : Int) (x109 : Int) (x110 : Int) (x111 : Int) (x112 : Int) (x113 : Int) (x114 : Int) (x115 : Int) (x116 : Bool) (x117 : Int) (x118 : (List Int)) (x119 : (List Int)) (x120 : (List T_api_Alt)) (x168 : Bool) : Option ((Int × Int × Int × Int × Int × Int × Int × Int × Int × Bool × Int × (List Int) × (List Int) × (List T_api_Alt)) ⊕ (T_api_Effect)) :=
  cond x168 ((X_run_Step_J2 y14 x108 x109 x110 x111 x112 x113 x114 x115 x116 x117 x118 x119 x120).map Sum.inr) ((lAt p0.Ins x108).bind fun y174 => (X_run_runner_reckons y174 p0.Ins p0.Defs p0.Chans p0.Main p0.Stmts p1.Def p1.At p1.Vars p1.Fuel p1.Mode p1.Chan p1.Val p1.Slot p1.Until p1.Since p1.Alts (w64 (x108 + 1)) x109 y14.A x110 x111 x112 x113 x114 x115 x116 (⟨x118, x117⟩ : T_stack_Stack_int_) x119 x120).bind fun y175 => cond (!y175.1) ((lAt p0.Ins x108).bind fun y177 => (X_run_runner_ends y177 x108 p0.Ins p0.Defs p0.Chans p0.Main p0.Stmts p1.Def p1.At p1.Vars p1.Fuel p1.Mode p1.Chan p1.Val p1.Slot p1.Until p1.Since p1.Alts y175.2.1 y175.2.2.1 y14.A y175.2.2.2.1 y175.2.2.2.2.1 y175.2.2.2.2.2.1 y175.2.2.2.2.2.2.1 y175.2.2.2.2.2.2.2.1 y175.2.2.2.2.2.2.2.2.1 y175.2.2.2.2.2.2.2.2.2.1 y175.2.2.2.2.2.2.2.2.2.2.1 y175.2.2.2.2.2.2.2.2.2.2.2.1 y175.2.2.2.2.2.2.2.2.2.2.2.2).bind fun y178 => (Sum.elim (fun y179 => X_run_Step_J3 x107 y175.2.1 y179.1 y179.2.1 y179.2.2.1 y179.2.2.2.1 y179.2.2.2.2.1 y179.2.2.2.2.2.1 y179.2.2.2.2.2.2.1 y179.2.2.2.2.2.2.2.1 y179.2.2.2.2.2.2.2.2.1.most y179.2.2.2.2.2.2.2.2.1.l y179.2.2.2.2.2.2.2.2.2.1 y179.2.2.2.2.2.2.2.2.2.2) (Sum.elim (fun y180 => X_run_Step_J3 x107 y175.2.1 y180.1 y180.2.1 y175.2.2.2.2.1 y175.2.2.2.2.2.1 y175.2.2.2.2.2.2.1 y180.2.2.1 y175.2.2.2.2.2.2.2.2.1 y180.2.2.2.1 y180.2.2.2.2.1.most y180.2.2.2.2.1.l y180.2.2.2.2.2.2 y180.2.2.2.2.2.1) (fun y181 => X_run_Step_J3 x107 y175.2.1 y181.1 y181.2.1 y175.2.2.2.2.1 y175.2.2.2.2.2.1 y175.2.2.2.2.2.2.1 y175.2.2.2.2.2.2.2.1 y175.2.2.2.2.2.2.2.2.1 y181.2.2.1 y175.2.2.2.2.2.2.2.2.2.2.1.most y175.2.2.2.2.2.2.2.2.2.2.1.l y175.2.2.2.2.2.2.2.2.2.2.2.1 y181.2.2.2))) y178) (X_run_Step_J3 x107 y175.2.1 y175.2.2.1 y175.2.2.2.1 y175.2.2.2.2.1 y175.2.2.2.2.2.1 y175.2.2.2.2.2.2.1 y175.2.2.2.2.2.2.2.1 y175.2.2.2.2.2.2.2.2.1 y175.2.2.2.2.2.2.2.2.2.1 y175.2.2.2.2.2.2.2.2.2.2.1.most y175.2.2.2.2.2.2.2.2.2.2.1.l y175.2.2.2.2.2.2.2.2.2.2.2.1 y175.2.2.2.2.2.2.2.2.2.2.2.2))
noncomputable def X_run_Step_L5 (p0 : T_api_Code) (p1 : T_api_Proc) (y14 : T_api_Ins) (x107 : Int) (x108 : Int) (x109 : Int) (x110 : Int) (x111 : Int) (x112 : Int) (x113 : Int) (x114 : Int) (x115 : Int) (x116 : Bool) (x117 : Int) (x118 : (List Int)) (x119 : (List Int)) (x120 : (List T_api_Alt)) : Option ((Int × Int × Int × Int × Int × Int × Int × Int × Int × Bool × Int × (List Int) × (List Int) × (List T_api_Alt)) ⊕ (T_api_Effect)) :=
  cond (decide (x107 < ((p0.Ins).length : Int))) (cond x116 (X_run_Step_J4 p0 p1 y14 x107 x108 x109 x110 x111 x112 x113 x114 x115 x116 x117 x118 x119 x120 true) (cond (decide (x108 < 0)) (X_run_Step_J4 p0 p1 y14 x107 x108 x109 x110 x111 x112 x113 x114 x115 x116 x117 x118 x119 x120 true) (X_run_Step_J4 p0 p1 y14 x107 x108 x109 x110 x111 x112 x113 x114 x115 x116 x117 x118 x119 x120 (decide (((p0.Ins).length : Int) ≤ x108))))) ((X_run_Step_J2 y14 x108 x109 x110 x111 x112 x113 x114 x115 x116 x117 x118 x119 x120).map Sum.inr)
noncomputable def X_run_Step_J1 (p0 : T_api_Code) (p1 : T_api_Proc) (x9 : Bool) : Option (T_api_Effect) :=
  cond x9 (some (⟨0, 0, 0, 0, 0, 0, 0, ([] : List Int), ([] : List T_api_Alt), 0⟩ : T_api_Effect)) ((X_stack_New_int 12).bind fun y13 => (lAt p0.Ins p1.At).bind fun y14 => Loopx (fun s : (Int × Int × Int × Int × Int × Int × Int × Int × Int × Bool × Int × (List Int) × (List Int) × (List T_api_Alt)) => X_run_Step_L5 p0 p1 y14 s.1 s.2.1 s.2.2.1 s.2.2.2.1 s.2.2.2.2.1 s.2.2.2.2.2.1 s.2.2.2.2.2.2.1 s.2.2.2.2.2.2.2.1 s.2.2.2.2.2.2.2.2.1 s.2.2.2.2.2.2.2.2.2.1 s.2.2.2.2.2.2.2.2.2.2.1 s.2.2.2.2.2.2.2.2.2.2.2.1 s.2.2.2.2.2.2.2.2.2.2.2.2.1 s.2.2.2.2.2.2.2.2.2.2.2.2.2) (0, (w64 (p1.At + 1)), 0, 0, 0, 0, 0, 0, 0, false, y13.most, ([] : (List Int)), ([] : (List Int)), ([] : (List T_api_Alt))))
noncomputable def X_run_Step (p0 : T_api_Code) (p1 : T_api_Proc) : Option (T_api_Effect) :=
  cond (p1.Mode != 0) (X_run_Step_J1 p0 p1 true) ((X_code_Stmt p0 p1.At).bind fun y187 => X_run_Step_J1 p0 p1 (decide (y187 < 0)))
noncomputable def X_slices_Equal_int_int_L1 (p0 : (List Int)) (p1 : (List Int)) (x22 : Int) : Option ((Int) ⊕ (Bool)) :=
  cond (decide (x22 < ((p0).length : Int))) ((lAt p0 x22).bind fun y34 => (lAt p1 x22).bind fun y35 => cond (y34 != y35) ((some false).map Sum.inr) (some (.inl (w64 (x22 + 1))))) ((some true).map Sum.inr)
noncomputable def X_slices_Equal_int_int (p0 : (List Int)) (p1 : (List Int)) : Option (Bool) :=
  cond (((p0).length : Int) != ((p1).length : Int)) (some false) (Loopx (fun s : (Int) => X_slices_Equal_int_int_L1 p0 p1 s) 0)
noncomputable def X_slices_Equal_retrace_api_Alt_retrace_api_Alt_L1 (p0 : (List T_api_Alt)) (p1 : (List T_api_Alt)) (x22 : Int) : Option ((Int) ⊕ (Bool)) :=
  cond (decide (x22 < ((p0).length : Int))) ((lAt p0 x22).bind fun y34 => (lAt p1 x22).bind fun y35 => cond (!((y34.Kind == y35.Kind) && ((y34.Chan == y35.Chan) && ((y34.Val == y35.Val) && ((y34.Slot == y35.Slot) && ((y34.Goto == y35.Goto) && true)))))) ((some false).map Sum.inr) (some (.inl (w64 (x22 + 1))))) ((some true).map Sum.inr)
noncomputable def X_slices_Equal_retrace_api_Alt_retrace_api_Alt (p0 : (List T_api_Alt)) (p1 : (List T_api_Alt)) : Option (Bool) :=
  cond (((p0).length : Int) != ((p1).length : Int)) (some false) (Loopx (fun s : (Int) => X_slices_Equal_retrace_api_Alt_retrace_api_Alt_L1 p0 p1 s) 0)
noncomputable def X_run_Same_J1 (x12 : Bool) : Option (Bool) :=
  some x12
noncomputable def X_run_Same (p0 : T_api_Effect) (p1 : T_api_Effect) : Option (Bool) :=
  cond (p0.Kind == p1.Kind) (cond (p0.Stmt == p1.Stmt) (cond (p0.At == p1.At) (cond (p0.Chan == p1.Chan) (cond (p0.Val == p1.Val) (cond (p0.Slot == p1.Slot) (cond (p0.Def == p1.Def) (cond (p0.Fault == p1.Fault) ((X_slices_Equal_int_int p0.Args p1.Args).bind fun y21 => cond y21 ((X_slices_Equal_retrace_api_Alt_retrace_api_Alt p0.Alts p1.Alts).bind fun y23 => X_run_Same_J1 y23) (X_run_Same_J1 false)) (X_run_Same_J1 false)) (X_run_Same_J1 false)) (X_run_Same_J1 false)) (X_run_Same_J1 false)) (X_run_Same_J1 false)) (X_run_Same_J1 false)) (X_run_Same_J1 false)) (X_run_Same_J1 false)
noncomputable def X_retracelaw24_live_J1 (x9 : Bool) : Option (Bool) :=
  some x9
noncomputable def X_retracelaw24_live  : Option (Bool) :=
  (X_retraceref19_Text (⟨#[109, 97, 105, 110, 32, 123, 32, 118, 97, 114, 32, 120, 32, 61, 32, 49, 32, 47, 32, 48, 59, 32, 125]⟩ : ByteArray)).bind fun y2 => (X_run_Step y2.C (⟨0, 0, [0], 1, 0, 0, 0, 0, 0, 0, ([] : (List T_api_Alt))⟩ : T_api_Proc)).bind fun y4 => cond (y4.Kind == 11) (cond (y4.Fault == 1) (cond (y4.Stmt == 0) ((X_run_Same y4 y4).bind fun y13 => X_retracelaw24_live_J1 y13) (X_retracelaw24_live_J1 false)) (X_retracelaw24_live_J1 false)) (X_retracelaw24_live_J1 false)
theorem LE_retraceref19_Text (p0 : ByteArray) : Le (X_retraceref19_Text p0) (F_retraceref19_Text p0) := by
  unfold X_retraceref19_Text F_retraceref19_Text
  repeat' with_reducible first
    | exact Le.non _
    | exact Le.rf _
    | refine Le.grd ?_
    | refine Le.bind ?_ (fun _ => ?_)
    | refine Le.cond ?_ ?_
    | refine Le.map ?_
    | refine Le.elim (fun _ => ?_) (fun _ => ?_)
    | refine Le.lt (fun _ => ?_)
    | refine Le.loop (fun _ => ?_)
    | refine Le.loopF (fun _ => ?_)
theorem LE_code_Stmt_J1 (p0 : T_api_Code) (p1 : Int) (x12 : Bool) : Le (X_code_Stmt_J1 p0 p1 x12) (F_code_Stmt_J1 p0 p1 x12) := by
  unfold X_code_Stmt_J1 F_code_Stmt_J1
  repeat' with_reducible first
    | exact Le.non _
    | exact Le.rf _
    | refine Le.grd ?_
    | refine Le.bind ?_ (fun _ => ?_)
    | refine Le.cond ?_ ?_
    | refine Le.map ?_
    | refine Le.elim (fun _ => ?_) (fun _ => ?_)
    | refine Le.lt (fun _ => ?_)
    | refine Le.loop (fun _ => ?_)
    | refine Le.loopF (fun _ => ?_)
theorem LE_code_Stmt (p0 : T_api_Code) (p1 : Int) : Le (X_code_Stmt p0 p1) (F_code_Stmt p0 p1) := by
  unfold X_code_Stmt F_code_Stmt
  repeat' with_reducible first
    | apply LE_code_Stmt_J1
    | exact Le.non _
    | exact Le.rf _
    | refine Le.grd ?_
    | refine Le.bind ?_ (fun _ => ?_)
    | refine Le.cond ?_ ?_
    | refine Le.map ?_
    | refine Le.elim (fun _ => ?_) (fun _ => ?_)
    | refine Le.lt (fun _ => ?_)
    | refine Le.loop (fun _ => ?_)
    | refine Le.loopF (fun _ => ?_)
theorem LE_stack_New_int (p0 : Int) : Le (X_stack_New_int p0) (F_stack_New_int p0) := by
  unfold X_stack_New_int F_stack_New_int
  repeat' with_reducible first
    | exact Le.non _
    | exact Le.rf _
    | refine Le.grd ?_
    | refine Le.bind ?_ (fun _ => ?_)
    | refine Le.cond ?_ ?_
    | refine Le.map ?_
    | refine Le.elim (fun _ => ?_) (fun _ => ?_)
    | refine Le.lt (fun _ => ?_)
    | refine Le.loop (fun _ => ?_)
    | refine Le.loopF (fun _ => ?_)
theorem LE_stack_Stack_int_Room (o0 : T_stack_Stack_int_) : Le (X_stack_Stack_int_Room o0) (F_stack_Stack_int_Room o0) := by
  unfold X_stack_Stack_int_Room F_stack_Stack_int_Room
  repeat' with_reducible first
    | exact Le.non _
    | exact Le.rf _
    | refine Le.grd ?_
    | refine Le.bind ?_ (fun _ => ?_)
    | refine Le.cond ?_ ?_
    | refine Le.map ?_
    | refine Le.elim (fun _ => ?_) (fun _ => ?_)
    | refine Le.lt (fun _ => ?_)
    | refine Le.loop (fun _ => ?_)
    | refine Le.loopF (fun _ => ?_)
theorem LE_stack_Stack_int_Push (p1 : Int) (o0 : T_stack_Stack_int_) : Le (X_stack_Stack_int_Push p1 o0) (F_stack_Stack_int_Push p1 o0) := by
  unfold X_stack_Stack_int_Push F_stack_Stack_int_Push
  repeat' with_reducible first
    | apply LE_stack_Stack_int_Room
    | exact Le.non _
    | exact Le.rf _
    | refine Le.grd ?_
    | refine Le.bind ?_ (fun _ => ?_)
    | refine Le.cond ?_ ?_
    | refine Le.map ?_
    | refine Le.elim (fun _ => ?_) (fun _ => ?_)
    | refine Le.lt (fun _ => ?_)
    | refine Le.loop (fun _ => ?_)
    | refine Le.loopF (fun _ => ?_)
theorem LE_run_runner_end (p1 : Int) (p2 : Int) (o0_0 : (List T_api_Ins)) (o0_1 : (List T_api_Def)) (o0_2 : (List T_api_Chan)) (o0_3 : Int) (o0_4 : Int) (o0_5 : Int) (o0_6 : Int) (o0_7 : (List Int)) (o0_8 : Int) (o0_9 : Int) (o0_10 : Int) (o0_11 : Int) (o0_12 : Int) (o0_13 : Int) (o0_14 : Int) (o0_15 : (List T_api_Alt)) (o0_17 : Int) (o0_18 : Int) (o0_19 : Int) (o0_20 : Int) (o0_21 : Int) (o0_22 : Int) (o0_23 : Int) (o0_24 : Int) (o0_27 : Int) (o0_28 : Bool) (o1 : T_stack_Stack_int_) (o3 : (List Int)) (o4 : (List T_api_Alt)) : Le (X_run_runner_end p1 p2 o0_0 o0_1 o0_2 o0_3 o0_4 o0_5 o0_6 o0_7 o0_8 o0_9 o0_10 o0_11 o0_12 o0_13 o0_14 o0_15 o0_17 o0_18 o0_19 o0_20 o0_21 o0_22 o0_23 o0_24 o0_27 o0_28 o1 o3 o4) (F_run_runner_end p1 p2) := by
  unfold X_run_runner_end F_run_runner_end
  repeat' with_reducible first
    | exact Le.non _
    | exact Le.rf _
    | refine Le.grd ?_
    | refine Le.bind ?_ (fun _ => ?_)
    | refine Le.cond ?_ ?_
    | refine Le.map ?_
    | refine Le.elim (fun _ => ?_) (fun _ => ?_)
    | refine Le.lt (fun _ => ?_)
    | refine Le.loop (fun _ => ?_)
    | refine Le.loopF (fun _ => ?_)
theorem LE_run_runner_fault (p1 : Int) (o0_0 : (List T_api_Ins)) (o0_1 : (List T_api_Def)) (o0_2 : (List T_api_Chan)) (o0_3 : Int) (o0_4 : Int) (o0_5 : Int) (o0_6 : Int) (o0_7 : (List Int)) (o0_8 : Int) (o0_9 : Int) (o0_10 : Int) (o0_11 : Int) (o0_12 : Int) (o0_13 : Int) (o0_14 : Int) (o0_15 : (List T_api_Alt)) (o0_17 : Int) (o0_18 : Int) (o0_19 : Int) (o0_20 : Int) (o0_21 : Int) (o0_22 : Int) (o0_23 : Int) (o0_24 : Int) (o0_27 : Int) (o0_28 : Bool) (o1 : T_stack_Stack_int_) (o3 : (List Int)) (o4 : (List T_api_Alt)) : Le (X_run_runner_fault p1 o0_0 o0_1 o0_2 o0_3 o0_4 o0_5 o0_6 o0_7 o0_8 o0_9 o0_10 o0_11 o0_12 o0_13 o0_14 o0_15 o0_17 o0_18 o0_19 o0_20 o0_21 o0_22 o0_23 o0_24 o0_27 o0_28 o1 o3 o4) (F_run_runner_fault p1) := by
  unfold X_run_runner_fault F_run_runner_fault
  repeat' with_reducible first
    | apply LE_run_runner_end
    | exact Le.non _
    | exact Le.rf _
    | refine Le.grd ?_
    | refine Le.bind ?_ (fun _ => ?_)
    | refine Le.cond ?_ ?_
    | refine Le.map ?_
    | refine Le.elim (fun _ => ?_) (fun _ => ?_)
    | refine Le.lt (fun _ => ?_)
    | refine Le.loop (fun _ => ?_)
    | refine Le.loopF (fun _ => ?_)
theorem LE_run_runner_lay_J1 (x1 : Int) (x24 : Int) (x25 : Int) (x26 : Int) (x27 : Int) (x28 : Int) (x29 : Int) (x30 : Int) (x31 : Bool) (x32 : Int) (x33 : (List Int)) (x34 : (List Int)) (x35 : (List T_api_Alt)) : Le (X_run_runner_lay_J1 x1 x24 x25 x26 x27 x28 x29 x30 x31 x32 x33 x34 x35) (F_run_runner_lay_J1 x1 x24 x25 x26 x27 x28 x29 x30 x31 x32 x33 x34 x35) := by
  unfold X_run_runner_lay_J1 F_run_runner_lay_J1
  repeat' with_reducible first
    | exact Le.non _
    | exact Le.rf _
    | refine Le.grd ?_
    | refine Le.bind ?_ (fun _ => ?_)
    | refine Le.cond ?_ ?_
    | refine Le.map ?_
    | refine Le.elim (fun _ => ?_) (fun _ => ?_)
    | refine Le.lt (fun _ => ?_)
    | refine Le.loop (fun _ => ?_)
    | refine Le.loopF (fun _ => ?_)
theorem LE_run_runner_lay_L2 (o0_0 : (List T_api_Ins)) (o0_1 : (List T_api_Def)) (o0_2 : (List T_api_Chan)) (o0_3 : Int) (o0_4 : Int) (o0_5 : Int) (o0_6 : Int) (o0_7 : (List Int)) (o0_8 : Int) (o0_9 : Int) (o0_10 : Int) (o0_11 : Int) (o0_12 : Int) (o0_13 : Int) (o0_14 : Int) (o0_15 : (List T_api_Alt)) (o0_17 : Int) (o0_19 : Int) (o5 : (List Int)) (x1 : Int) (x2 : Int) (x3 : Int) (x4 : Int) (x5 : Int) (x6 : Int) (x7 : Int) (x8 : Int) (x9 : Bool) (x10 : Int) (x11 : (List Int)) (x12 : (List Int)) (x13 : (List T_api_Alt)) : Le (X_run_runner_lay_L2 o0_0 o0_1 o0_2 o0_3 o0_4 o0_5 o0_6 o0_7 o0_8 o0_9 o0_10 o0_11 o0_12 o0_13 o0_14 o0_15 o0_17 o0_19 o5 x1 x2 x3 x4 x5 x6 x7 x8 x9 x10 x11 x12 x13) (F_run_runner_lay_L2 o5 x1 x2 x3 x4 x5 x6 x7 x8 x9 x10 x11 x12 x13) := by
  unfold X_run_runner_lay_L2 F_run_runner_lay_L2
  repeat' with_reducible first
    | apply LE_stack_Stack_int_Push
    | apply LE_run_runner_fault
    | apply LE_run_runner_lay_J1
    | exact Le.non _
    | exact Le.rf _
    | refine Le.grd ?_
    | refine Le.bind ?_ (fun _ => ?_)
    | refine Le.cond ?_ ?_
    | refine Le.map ?_
    | refine Le.elim (fun _ => ?_) (fun _ => ?_)
    | refine Le.lt (fun _ => ?_)
    | refine Le.loop (fun _ => ?_)
    | refine Le.loopF (fun _ => ?_)
theorem LE_run_runner_lay (o0_0 : (List T_api_Ins)) (o0_1 : (List T_api_Def)) (o0_2 : (List T_api_Chan)) (o0_3 : Int) (o0_4 : Int) (o0_5 : Int) (o0_6 : Int) (o0_7 : (List Int)) (o0_8 : Int) (o0_9 : Int) (o0_10 : Int) (o0_11 : Int) (o0_12 : Int) (o0_13 : Int) (o0_14 : Int) (o0_15 : (List T_api_Alt)) (o0_17 : Int) (o0_18 : Int) (o0_19 : Int) (o0_20 : Int) (o0_21 : Int) (o0_22 : Int) (o0_23 : Int) (o0_24 : Int) (o0_27 : Int) (o0_28 : Bool) (o1 : T_stack_Stack_int_) (o3 : (List Int)) (o4 : (List T_api_Alt)) (o5 : (List Int)) : Le (X_run_runner_lay o0_0 o0_1 o0_2 o0_3 o0_4 o0_5 o0_6 o0_7 o0_8 o0_9 o0_10 o0_11 o0_12 o0_13 o0_14 o0_15 o0_17 o0_18 o0_19 o0_20 o0_21 o0_22 o0_23 o0_24 o0_27 o0_28 o1 o3 o4 o5) (F_run_runner_lay o0_18 o0_20 o0_21 o0_22 o0_23 o0_24 o0_27 o0_28 o1 o3 o4 o5) := by
  unfold X_run_runner_lay F_run_runner_lay
  repeat' with_reducible first
    | apply LE_run_runner_lay_L2
    | exact Le.non _
    | exact Le.rf _
    | refine Le.grd ?_
    | refine Le.bind ?_ (fun _ => ?_)
    | refine Le.cond ?_ ?_
    | refine Le.map ?_
    | refine Le.elim (fun _ => ?_) (fun _ => ?_)
    | refine Le.lt (fun _ => ?_)
    | refine Le.loop (fun _ => ?_)
    | refine Le.loopF (fun _ => ?_)
theorem LE_run_runner_slot_J1 (p1 : Int) (o0_7 : (List Int)) (x6 : Bool) : Le (X_run_runner_slot_J1 p1 o0_7 x6) (F_run_runner_slot_J1 p1 o0_7 x6) := by
  unfold X_run_runner_slot_J1 F_run_runner_slot_J1
  repeat' with_reducible first
    | exact Le.non _
    | exact Le.rf _
    | refine Le.grd ?_
    | refine Le.bind ?_ (fun _ => ?_)
    | refine Le.cond ?_ ?_
    | refine Le.map ?_
    | refine Le.elim (fun _ => ?_) (fun _ => ?_)
    | refine Le.lt (fun _ => ?_)
    | refine Le.loop (fun _ => ?_)
    | refine Le.loopF (fun _ => ?_)
theorem LE_run_runner_slot (p1 : Int) (o0_0 : (List T_api_Ins)) (o0_1 : (List T_api_Def)) (o0_2 : (List T_api_Chan)) (o0_3 : Int) (o0_4 : Int) (o0_5 : Int) (o0_6 : Int) (o0_7 : (List Int)) (o0_8 : Int) (o0_9 : Int) (o0_10 : Int) (o0_11 : Int) (o0_12 : Int) (o0_13 : Int) (o0_14 : Int) (o0_15 : (List T_api_Alt)) (o0_17 : Int) (o0_18 : Int) (o0_19 : Int) (o0_20 : Int) (o0_21 : Int) (o0_22 : Int) (o0_23 : Int) (o0_24 : Int) (o0_27 : Int) (o0_28 : Bool) (o1 : T_stack_Stack_int_) (o3 : (List Int)) (o4 : (List T_api_Alt)) : Le (X_run_runner_slot p1 o0_0 o0_1 o0_2 o0_3 o0_4 o0_5 o0_6 o0_7 o0_8 o0_9 o0_10 o0_11 o0_12 o0_13 o0_14 o0_15 o0_17 o0_18 o0_19 o0_20 o0_21 o0_22 o0_23 o0_24 o0_27 o0_28 o1 o3 o4) (F_run_runner_slot p1 o0_7) := by
  unfold X_run_runner_slot F_run_runner_slot
  repeat' with_reducible first
    | apply LE_run_runner_slot_J1
    | exact Le.non _
    | exact Le.rf _
    | refine Le.grd ?_
    | refine Le.bind ?_ (fun _ => ?_)
    | refine Le.cond ?_ ?_
    | refine Le.map ?_
    | refine Le.elim (fun _ => ?_) (fun _ => ?_)
    | refine Le.lt (fun _ => ?_)
    | refine Le.loop (fun _ => ?_)
    | refine Le.loopF (fun _ => ?_)
theorem LE_arith_Wide_J2 (x13 : Bool) : Le (X_arith_Wide_J2 x13) (F_arith_Wide_J2 x13) := by
  unfold X_arith_Wide_J2 F_arith_Wide_J2
  repeat' with_reducible first
    | exact Le.non _
    | exact Le.rf _
    | refine Le.grd ?_
    | refine Le.bind ?_ (fun _ => ?_)
    | refine Le.cond ?_ ?_
    | refine Le.map ?_
    | refine Le.elim (fun _ => ?_) (fun _ => ?_)
    | refine Le.lt (fun _ => ?_)
    | refine Le.loop (fun _ => ?_)
    | refine Le.loopF (fun _ => ?_)
theorem LE_arith_Wide_J1 (p0 : Int) (x10 : Bool) : Le (X_arith_Wide_J1 p0 x10) (F_arith_Wide_J1 p0 x10) := by
  unfold X_arith_Wide_J1 F_arith_Wide_J1
  repeat' with_reducible first
    | apply LE_arith_Wide_J2
    | exact Le.non _
    | exact Le.rf _
    | refine Le.grd ?_
    | refine Le.bind ?_ (fun _ => ?_)
    | refine Le.cond ?_ ?_
    | refine Le.map ?_
    | refine Le.elim (fun _ => ?_) (fun _ => ?_)
    | refine Le.lt (fun _ => ?_)
    | refine Le.loop (fun _ => ?_)
    | refine Le.loopF (fun _ => ?_)
theorem LE_arith_Wide (p0 : Int) : Le (X_arith_Wide p0) (F_arith_Wide p0) := by
  unfold X_arith_Wide F_arith_Wide
  repeat' with_reducible first
    | apply LE_arith_Wide_J1
    | exact Le.non _
    | exact Le.rf _
    | refine Le.grd ?_
    | refine Le.bind ?_ (fun _ => ?_)
    | refine Le.cond ?_ ?_
    | refine Le.map ?_
    | refine Le.elim (fun _ => ?_) (fun _ => ?_)
    | refine Le.lt (fun _ => ?_)
    | refine Le.loop (fun _ => ?_)
    | refine Le.loopF (fun _ => ?_)
theorem LE_stack_Stack_int_Len (o0 : T_stack_Stack_int_) : Le (X_stack_Stack_int_Len o0) (F_stack_Stack_int_Len o0) := by
  unfold X_stack_Stack_int_Len F_stack_Stack_int_Len
  repeat' with_reducible first
    | exact Le.non _
    | exact Le.rf _
    | refine Le.grd ?_
    | refine Le.bind ?_ (fun _ => ?_)
    | refine Le.cond ?_ ?_
    | refine Le.map ?_
    | refine Le.elim (fun _ => ?_) (fun _ => ?_)
    | refine Le.lt (fun _ => ?_)
    | refine Le.loop (fun _ => ?_)
    | refine Le.loopF (fun _ => ?_)
theorem LE_slices_Clone_int_int (p0 : (List Int)) : Le (X_slices_Clone_int_int p0) (F_slices_Clone_int_int p0) := by
  unfold X_slices_Clone_int_int F_slices_Clone_int_int
  repeat' with_reducible first
    | exact Le.non _
    | exact Le.rf _
    | refine Le.grd ?_
    | refine Le.bind ?_ (fun _ => ?_)
    | refine Le.cond ?_ ?_
    | refine Le.map ?_
    | refine Le.elim (fun _ => ?_) (fun _ => ?_)
    | refine Le.lt (fun _ => ?_)
    | refine Le.loop (fun _ => ?_)
    | refine Le.loopF (fun _ => ?_)
theorem LE_stack_Stack_int_Take_J2 (p1 : Int) (o0 : T_stack_Stack_int_) (y2 : Int) (x15 : (List Int)) : Le (X_stack_Stack_int_Take_J2 p1 o0 y2 x15) (F_stack_Stack_int_Take_J2 p1 o0 y2 x15) := by
  unfold X_stack_Stack_int_Take_J2 F_stack_Stack_int_Take_J2
  repeat' with_reducible first
    | exact Le.non _
    | exact Le.rf _
    | refine Le.grd ?_
    | refine Le.bind ?_ (fun _ => ?_)
    | refine Le.cond ?_ ?_
    | refine Le.map ?_
    | refine Le.elim (fun _ => ?_) (fun _ => ?_)
    | refine Le.lt (fun _ => ?_)
    | refine Le.loop (fun _ => ?_)
    | refine Le.loopF (fun _ => ?_)
theorem LE_stack_Stack_int_Take_J1 (p1 : Int) (o0 : T_stack_Stack_int_) (y2 : Int) (x8 : Bool) : Le (X_stack_Stack_int_Take_J1 p1 o0 y2 x8) (F_stack_Stack_int_Take_J1 p1 o0 y2 x8) := by
  unfold X_stack_Stack_int_Take_J1 F_stack_Stack_int_Take_J1
  repeat' with_reducible first
    | apply LE_slices_Clone_int_int
    | apply LE_stack_Stack_int_Take_J2
    | exact Le.non _
    | exact Le.rf _
    | refine Le.grd ?_
    | refine Le.bind ?_ (fun _ => ?_)
    | refine Le.cond ?_ ?_
    | refine Le.map ?_
    | refine Le.elim (fun _ => ?_) (fun _ => ?_)
    | refine Le.lt (fun _ => ?_)
    | refine Le.loop (fun _ => ?_)
    | refine Le.loopF (fun _ => ?_)
theorem LE_stack_Stack_int_Take (p1 : Int) (o0 : T_stack_Stack_int_) : Le (X_stack_Stack_int_Take p1 o0) (F_stack_Stack_int_Take p1 o0) := by
  unfold X_stack_Stack_int_Take F_stack_Stack_int_Take
  repeat' with_reducible first
    | apply LE_stack_Stack_int_Len
    | apply LE_stack_Stack_int_Take_J1
    | exact Le.non _
    | exact Le.rf _
    | refine Le.grd ?_
    | refine Le.bind ?_ (fun _ => ?_)
    | refine Le.cond ?_ ?_
    | refine Le.map ?_
    | refine Le.elim (fun _ => ?_) (fun _ => ?_)
    | refine Le.lt (fun _ => ?_)
    | refine Le.loop (fun _ => ?_)
    | refine Le.loopF (fun _ => ?_)
theorem LE_arith_bit (p0 : Bool) : Le (X_arith_bit p0) (F_arith_bit p0) := by
  unfold X_arith_bit F_arith_bit
  repeat' with_reducible first
    | exact Le.non _
    | exact Le.rf _
    | refine Le.grd ?_
    | refine Le.bind ?_ (fun _ => ?_)
    | refine Le.cond ?_ ?_
    | refine Le.map ?_
    | refine Le.elim (fun _ => ?_) (fun _ => ?_)
    | refine Le.lt (fun _ => ?_)
    | refine Le.loop (fun _ => ?_)
    | refine Le.loopF (fun _ => ?_)
theorem LE_arith_compared_J1 (x20 : Int) (x21 : Int) (x22 : Int) (x23 : Int) (x24 : Int) (x25 : Int) (x26 : Int) (x27 : Int) (x28 : Int) : Le (X_arith_compared_J1 x20 x21 x22 x23 x24 x25 x26 x27 x28) (F_arith_compared_J1 x20 x21 x22 x23 x24 x25 x26 x27 x28) := by
  unfold X_arith_compared_J1 F_arith_compared_J1
  repeat' with_reducible first
    | exact Le.non _
    | exact Le.rf _
    | refine Le.grd ?_
    | refine Le.bind ?_ (fun _ => ?_)
    | refine Le.cond ?_ ?_
    | refine Le.map ?_
    | refine Le.elim (fun _ => ?_) (fun _ => ?_)
    | refine Le.lt (fun _ => ?_)
    | refine Le.loop (fun _ => ?_)
    | refine Le.loopF (fun _ => ?_)
theorem LE_arith_compared (p0 : Int) (p1 : Int) : Le (X_arith_compared p0 p1) (F_arith_compared p0 p1) := by
  unfold X_arith_compared F_arith_compared
  repeat' with_reducible first
    | apply LE_arith_bit
    | apply LE_arith_compared_J1
    | exact Le.non _
    | exact Le.rf _
    | refine Le.grd ?_
    | refine Le.bind ?_ (fun _ => ?_)
    | refine Le.cond ?_ ?_
    | refine Le.map ?_
    | refine Le.elim (fun _ => ?_) (fun _ => ?_)
    | refine Le.lt (fun _ => ?_)
    | refine Le.loop (fun _ => ?_)
    | refine Le.loopF (fun _ => ?_)
theorem LE_arith_Apply_J1 (p0 : Int) (p1 : Int) (p2 : Int) (x24 : Bool) : Le (X_arith_Apply_J1 p0 p1 p2 x24) (F_arith_Apply_J1 p0 p1 p2 x24) := by
  unfold X_arith_Apply_J1 F_arith_Apply_J1
  repeat' with_reducible first
    | apply LE_arith_compared
    | exact Le.non _
    | exact Le.rf _
    | refine Le.grd ?_
    | refine Le.bind ?_ (fun _ => ?_)
    | refine Le.cond ?_ ?_
    | refine Le.map ?_
    | refine Le.elim (fun _ => ?_) (fun _ => ?_)
    | refine Le.lt (fun _ => ?_)
    | refine Le.loop (fun _ => ?_)
    | refine Le.loopF (fun _ => ?_)
theorem LE_arith_Apply (p0 : Int) (p1 : Int) (p2 : Int) : Le (X_arith_Apply p0 p1 p2) (F_arith_Apply p0 p1 p2) := by
  unfold X_arith_Apply F_arith_Apply
  repeat' with_reducible first
    | apply LE_arith_Apply_J1
    | exact Le.non _
    | exact Le.rf _
    | refine Le.grd ?_
    | refine Le.bind ?_ (fun _ => ?_)
    | refine Le.cond ?_ ?_
    | refine Le.map ?_
    | refine Le.elim (fun _ => ?_) (fun _ => ?_)
    | refine Le.lt (fun _ => ?_)
    | refine Le.loop (fun _ => ?_)
    | refine Le.loopF (fun _ => ?_)
theorem LE_run_runner_reckon (p1 : Int) (o0_0 : (List T_api_Ins)) (o0_1 : (List T_api_Def)) (o0_2 : (List T_api_Chan)) (o0_3 : Int) (o0_4 : Int) (o0_5 : Int) (o0_6 : Int) (o0_7 : (List Int)) (o0_8 : Int) (o0_9 : Int) (o0_10 : Int) (o0_11 : Int) (o0_12 : Int) (o0_13 : Int) (o0_14 : Int) (o0_15 : (List T_api_Alt)) (o0_17 : Int) (o0_18 : Int) (o0_19 : Int) (o0_20 : Int) (o0_21 : Int) (o0_22 : Int) (o0_23 : Int) (o0_24 : Int) (o0_27 : Int) (o0_28 : Bool) (o1 : T_stack_Stack_int_) (o3 : (List Int)) (o4 : (List T_api_Alt)) : Le (X_run_runner_reckon p1 o0_0 o0_1 o0_2 o0_3 o0_4 o0_5 o0_6 o0_7 o0_8 o0_9 o0_10 o0_11 o0_12 o0_13 o0_14 o0_15 o0_17 o0_18 o0_19 o0_20 o0_21 o0_22 o0_23 o0_24 o0_27 o0_28 o1 o3 o4) (F_run_runner_reckon p1 o0_18 o0_20 o0_21 o0_22 o0_23 o0_24 o0_27 o0_28 o1 o3 o4) := by
  unfold X_run_runner_reckon F_run_runner_reckon
  repeat' with_reducible first
    | apply LE_arith_Wide
    | apply LE_stack_Stack_int_Take
    | apply LE_arith_Apply
    | apply LE_run_runner_fault
    | apply LE_run_runner_lay
    | exact Le.non _
    | exact Le.rf _
    | refine Le.grd ?_
    | refine Le.bind ?_ (fun _ => ?_)
    | refine Le.cond ?_ ?_
    | refine Le.map ?_
    | refine Le.elim (fun _ => ?_) (fun _ => ?_)
    | refine Le.lt (fun _ => ?_)
    | refine Le.loop (fun _ => ?_)
    | refine Le.loopF (fun _ => ?_)
theorem LE_run_runner_jump (p1 : Int) (p2 : Bool) (o0_0 : (List T_api_Ins)) (o0_1 : (List T_api_Def)) (o0_2 : (List T_api_Chan)) (o0_3 : Int) (o0_4 : Int) (o0_5 : Int) (o0_6 : Int) (o0_7 : (List Int)) (o0_8 : Int) (o0_9 : Int) (o0_10 : Int) (o0_11 : Int) (o0_12 : Int) (o0_13 : Int) (o0_14 : Int) (o0_15 : (List T_api_Alt)) (o0_17 : Int) (o0_18 : Int) (o0_19 : Int) (o0_20 : Int) (o0_21 : Int) (o0_22 : Int) (o0_23 : Int) (o0_24 : Int) (o0_27 : Int) (o0_28 : Bool) (o1 : T_stack_Stack_int_) (o3 : (List Int)) (o4 : (List T_api_Alt)) : Le (X_run_runner_jump p1 p2 o0_0 o0_1 o0_2 o0_3 o0_4 o0_5 o0_6 o0_7 o0_8 o0_9 o0_10 o0_11 o0_12 o0_13 o0_14 o0_15 o0_17 o0_18 o0_19 o0_20 o0_21 o0_22 o0_23 o0_24 o0_27 o0_28 o1 o3 o4) (F_run_runner_jump p1 p2 o0_17) := by
  unfold X_run_runner_jump F_run_runner_jump
  repeat' with_reducible first
    | exact Le.non _
    | exact Le.rf _
    | refine Le.grd ?_
    | refine Le.bind ?_ (fun _ => ?_)
    | refine Le.cond ?_ ?_
    | refine Le.map ?_
    | refine Le.elim (fun _ => ?_) (fun _ => ?_)
    | refine Le.lt (fun _ => ?_)
    | refine Le.loop (fun _ => ?_)
    | refine Le.loopF (fun _ => ?_)
theorem LE_stack_Stack_int_Pop (o0 : T_stack_Stack_int_) : Le (X_stack_Stack_int_Pop o0) (F_stack_Stack_int_Pop o0) := by
  unfold X_stack_Stack_int_Pop F_stack_Stack_int_Pop
  repeat' with_reducible first
    | apply LE_stack_Stack_int_Take
    | exact Le.non _
    | exact Le.rf _
    | refine Le.grd ?_
    | refine Le.bind ?_ (fun _ => ?_)
    | refine Le.cond ?_ ?_
    | refine Le.map ?_
    | refine Le.elim (fun _ => ?_) (fun _ => ?_)
    | refine Le.lt (fun _ => ?_)
    | refine Le.loop (fun _ => ?_)
    | refine Le.loopF (fun _ => ?_)
theorem LE_run_runner_take (o0_0 : (List T_api_Ins)) (o0_1 : (List T_api_Def)) (o0_2 : (List T_api_Chan)) (o0_3 : Int) (o0_4 : Int) (o0_5 : Int) (o0_6 : Int) (o0_7 : (List Int)) (o0_8 : Int) (o0_9 : Int) (o0_10 : Int) (o0_11 : Int) (o0_12 : Int) (o0_13 : Int) (o0_14 : Int) (o0_15 : (List T_api_Alt)) (o0_17 : Int) (o0_18 : Int) (o0_19 : Int) (o0_20 : Int) (o0_21 : Int) (o0_22 : Int) (o0_23 : Int) (o0_24 : Int) (o0_27 : Int) (o0_28 : Bool) (o1 : T_stack_Stack_int_) (o3 : (List Int)) (o4 : (List T_api_Alt)) : Le (X_run_runner_take o0_0 o0_1 o0_2 o0_3 o0_4 o0_5 o0_6 o0_7 o0_8 o0_9 o0_10 o0_11 o0_12 o0_13 o0_14 o0_15 o0_17 o0_18 o0_19 o0_20 o0_21 o0_22 o0_23 o0_24 o0_27 o0_28 o1 o3 o4) (F_run_runner_take o1) := by
  unfold X_run_runner_take F_run_runner_take
  repeat' with_reducible first
    | apply LE_stack_Stack_int_Pop
    | exact Le.non _
    | exact Le.rf _
    | refine Le.grd ?_
    | refine Le.bind ?_ (fun _ => ?_)
    | refine Le.cond ?_ ?_
    | refine Le.map ?_
    | refine Le.elim (fun _ => ?_) (fun _ => ?_)
    | refine Le.lt (fun _ => ?_)
    | refine Le.loop (fun _ => ?_)
    | refine Le.loopF (fun _ => ?_)
theorem LE_run_runner_channel_J1 (p1 : T_api_Ins) (o0_0 : (List T_api_Ins)) (o0_1 : (List T_api_Def)) (o0_2 : (List T_api_Chan)) (o0_3 : Int) (o0_4 : Int) (o0_5 : Int) (o0_6 : Int) (o0_7 : (List Int)) (o0_8 : Int) (o0_9 : Int) (o0_10 : Int) (o0_11 : Int) (o0_12 : Int) (o0_13 : Int) (o0_14 : Int) (o0_15 : (List T_api_Alt)) (o0_17 : Int) (o0_18 : Int) (o0_19 : Int) (o0_20 : Int) (o0_21 : Int) (o0_22 : Int) (o0_23 : Int) (o0_24 : Int) (o0_27 : Int) (o0_28 : Bool) (o3 : (List Int)) (o4 : (List T_api_Alt)) (y8 : Int × T_stack_Stack_int_) (x16 : Bool) : Le (X_run_runner_channel_J1 p1 o0_0 o0_1 o0_2 o0_3 o0_4 o0_5 o0_6 o0_7 o0_8 o0_9 o0_10 o0_11 o0_12 o0_13 o0_14 o0_15 o0_17 o0_18 o0_19 o0_20 o0_21 o0_22 o0_23 o0_24 o0_27 o0_28 o3 o4 y8 x16) (F_run_runner_channel_J1 p1 o0_18 o0_20 o0_21 o0_22 o0_23 o0_24 o0_27 o0_28 o3 o4 y8 x16) := by
  unfold X_run_runner_channel_J1 F_run_runner_channel_J1
  repeat' with_reducible first
    | apply LE_run_runner_fault
    | apply LE_run_runner_lay
    | exact Le.non _
    | exact Le.rf _
    | refine Le.grd ?_
    | refine Le.bind ?_ (fun _ => ?_)
    | refine Le.cond ?_ ?_
    | refine Le.map ?_
    | refine Le.elim (fun _ => ?_) (fun _ => ?_)
    | refine Le.lt (fun _ => ?_)
    | refine Le.loop (fun _ => ?_)
    | refine Le.loopF (fun _ => ?_)
theorem LE_run_runner_channel (p1 : T_api_Ins) (o0_0 : (List T_api_Ins)) (o0_1 : (List T_api_Def)) (o0_2 : (List T_api_Chan)) (o0_3 : Int) (o0_4 : Int) (o0_5 : Int) (o0_6 : Int) (o0_7 : (List Int)) (o0_8 : Int) (o0_9 : Int) (o0_10 : Int) (o0_11 : Int) (o0_12 : Int) (o0_13 : Int) (o0_14 : Int) (o0_15 : (List T_api_Alt)) (o0_17 : Int) (o0_18 : Int) (o0_19 : Int) (o0_20 : Int) (o0_21 : Int) (o0_22 : Int) (o0_23 : Int) (o0_24 : Int) (o0_27 : Int) (o0_28 : Bool) (o1 : T_stack_Stack_int_) (o3 : (List Int)) (o4 : (List T_api_Alt)) : Le (X_run_runner_channel p1 o0_0 o0_1 o0_2 o0_3 o0_4 o0_5 o0_6 o0_7 o0_8 o0_9 o0_10 o0_11 o0_12 o0_13 o0_14 o0_15 o0_17 o0_18 o0_19 o0_20 o0_21 o0_22 o0_23 o0_24 o0_27 o0_28 o1 o3 o4) (F_run_runner_channel p1 o0_18 o0_20 o0_21 o0_22 o0_23 o0_24 o0_27 o0_28 o1 o3 o4) := by
  unfold X_run_runner_channel F_run_runner_channel
  repeat' with_reducible first
    | apply LE_run_runner_lay
    | apply LE_run_runner_take
    | apply LE_run_runner_channel_J1
    | exact Le.non _
    | exact Le.rf _
    | refine Le.grd ?_
    | refine Le.bind ?_ (fun _ => ?_)
    | refine Le.cond ?_ ?_
    | refine Le.map ?_
    | refine Le.elim (fun _ => ?_) (fun _ => ?_)
    | refine Le.lt (fun _ => ?_)
    | refine Le.loop (fun _ => ?_)
    | refine Le.loopF (fun _ => ?_)
theorem LE_proc_Chans_L1 (p0 : T_api_Code) (x13 : Int) (x14 : Int) : Le (X_proc_Chans_L1 p0 x13 x14) (F_proc_Chans_L1 p0 x13 x14) := by
  unfold X_proc_Chans_L1 F_proc_Chans_L1
  repeat' with_reducible first
    | exact Le.non _
    | exact Le.rf _
    | refine Le.grd ?_
    | refine Le.bind ?_ (fun _ => ?_)
    | refine Le.cond ?_ ?_
    | refine Le.map ?_
    | refine Le.elim (fun _ => ?_) (fun _ => ?_)
    | refine Le.lt (fun _ => ?_)
    | refine Le.loop (fun _ => ?_)
    | refine Le.loopF (fun _ => ?_)
theorem LE_proc_Chans (p0 : T_api_Code) : Le (X_proc_Chans p0) (F_proc_Chans p0) := by
  unfold X_proc_Chans F_proc_Chans
  repeat' with_reducible first
    | apply LE_proc_Chans_L1
    | exact Le.non _
    | exact Le.rf _
    | refine Le.grd ?_
    | refine Le.bind ?_ (fun _ => ?_)
    | refine Le.cond ?_ ?_
    | refine Le.map ?_
    | refine Le.elim (fun _ => ?_) (fun _ => ?_)
    | refine Le.lt (fun _ => ?_)
    | refine Le.loop (fun _ => ?_)
    | refine Le.loopF (fun _ => ?_)
theorem LE_run_runner_none_J1 (o0_0 : (List T_api_Ins)) (o0_1 : (List T_api_Def)) (o0_2 : (List T_api_Chan)) (o0_3 : Int) (o0_4 : Int) (o0_5 : Int) (o0_6 : Int) (o0_7 : (List Int)) (o0_8 : Int) (o0_9 : Int) (o0_10 : Int) (o0_11 : Int) (o0_12 : Int) (o0_13 : Int) (o0_14 : Int) (o0_15 : (List T_api_Alt)) (o0_17 : Int) (o0_18 : Int) (o0_19 : Int) (o0_20 : Int) (o0_21 : Int) (o0_22 : Int) (o0_23 : Int) (o0_24 : Int) (o0_27 : Int) (o0_28 : Bool) (o1 : T_stack_Stack_int_) (o3 : (List Int)) (o4 : (List T_api_Alt)) (x9 : Bool) : Le (X_run_runner_none_J1 o0_0 o0_1 o0_2 o0_3 o0_4 o0_5 o0_6 o0_7 o0_8 o0_9 o0_10 o0_11 o0_12 o0_13 o0_14 o0_15 o0_17 o0_18 o0_19 o0_20 o0_21 o0_22 o0_23 o0_24 o0_27 o0_28 o1 o3 o4 x9) (F_run_runner_none_J1 o0_18 o0_20 o0_21 o0_22 o0_23 o0_24 o0_27 o0_28 o3 o4 x9) := by
  unfold X_run_runner_none_J1 F_run_runner_none_J1
  repeat' with_reducible first
    | apply LE_run_runner_fault
    | exact Le.non _
    | exact Le.rf _
    | refine Le.grd ?_
    | refine Le.bind ?_ (fun _ => ?_)
    | refine Le.cond ?_ ?_
    | refine Le.map ?_
    | refine Le.elim (fun _ => ?_) (fun _ => ?_)
    | refine Le.lt (fun _ => ?_)
    | refine Le.loop (fun _ => ?_)
    | refine Le.loopF (fun _ => ?_)
theorem LE_run_runner_none (p1 : Int) (o0_0 : (List T_api_Ins)) (o0_1 : (List T_api_Def)) (o0_2 : (List T_api_Chan)) (o0_3 : Int) (o0_4 : Int) (o0_5 : Int) (o0_6 : Int) (o0_7 : (List Int)) (o0_8 : Int) (o0_9 : Int) (o0_10 : Int) (o0_11 : Int) (o0_12 : Int) (o0_13 : Int) (o0_14 : Int) (o0_15 : (List T_api_Alt)) (o0_17 : Int) (o0_18 : Int) (o0_19 : Int) (o0_20 : Int) (o0_21 : Int) (o0_22 : Int) (o0_23 : Int) (o0_24 : Int) (o0_27 : Int) (o0_28 : Bool) (o1 : T_stack_Stack_int_) (o3 : (List Int)) (o4 : (List T_api_Alt)) : Le (X_run_runner_none p1 o0_0 o0_1 o0_2 o0_3 o0_4 o0_5 o0_6 o0_7 o0_8 o0_9 o0_10 o0_11 o0_12 o0_13 o0_14 o0_15 o0_17 o0_18 o0_19 o0_20 o0_21 o0_22 o0_23 o0_24 o0_27 o0_28 o1 o3 o4) (F_run_runner_none p1 o0_0 o0_1 o0_2 o0_3 o0_4 o0_18 o0_20 o0_21 o0_22 o0_23 o0_24 o0_27 o0_28 o3 o4) := by
  unfold X_run_runner_none F_run_runner_none
  repeat' with_reducible first
    | apply LE_proc_Chans
    | apply LE_run_runner_none_J1
    | exact Le.non _
    | exact Le.rf _
    | refine Le.grd ?_
    | refine Le.bind ?_ (fun _ => ?_)
    | refine Le.cond ?_ ?_
    | refine Le.map ?_
    | refine Le.elim (fun _ => ?_) (fun _ => ?_)
    | refine Le.lt (fun _ => ?_)
    | refine Le.loop (fun _ => ?_)
    | refine Le.loopF (fun _ => ?_)
theorem LE_code_Settle_J1 (p0 : T_api_Code) (x45 : Int) (x46 : Int) (x79 : Bool) : Le (X_code_Settle_J1 p0 x45 x46 x79) (F_code_Settle_J1 p0 x45 x46 x79) := by
  unfold X_code_Settle_J1 F_code_Settle_J1
  repeat' with_reducible first
    | exact Le.non _
    | exact Le.rf _
    | refine Le.grd ?_
    | refine Le.bind ?_ (fun _ => ?_)
    | refine Le.cond ?_ ?_
    | refine Le.map ?_
    | refine Le.elim (fun _ => ?_) (fun _ => ?_)
    | refine Le.lt (fun _ => ?_)
    | refine Le.loop (fun _ => ?_)
    | refine Le.loopF (fun _ => ?_)
theorem LE_code_Settle_L2 (p0 : T_api_Code) (p1 : Int) (x45 : Int) (x46 : Int) : Le (X_code_Settle_L2 p0 p1 x45 x46) (F_code_Settle_L2 p0 p1 x45 x46) := by
  unfold X_code_Settle_L2 F_code_Settle_L2
  repeat' with_reducible first
    | apply LE_code_Settle_J1
    | exact Le.non _
    | exact Le.rf _
    | refine Le.grd ?_
    | refine Le.bind ?_ (fun _ => ?_)
    | refine Le.cond ?_ ?_
    | refine Le.map ?_
    | refine Le.elim (fun _ => ?_) (fun _ => ?_)
    | refine Le.lt (fun _ => ?_)
    | refine Le.loop (fun _ => ?_)
    | refine Le.loopF (fun _ => ?_)
theorem LE_code_Settle (p0 : T_api_Code) (p1 : Int) : Le (X_code_Settle p0 p1) (F_code_Settle p0 p1) := by
  unfold X_code_Settle F_code_Settle
  repeat' with_reducible first
    | apply LE_code_Settle_L2
    | exact Le.non _
    | exact Le.rf _
    | refine Le.grd ?_
    | refine Le.bind ?_ (fun _ => ?_)
    | refine Le.cond ?_ ?_
    | refine Le.map ?_
    | refine Le.elim (fun _ => ?_) (fun _ => ?_)
    | refine Le.lt (fun _ => ?_)
    | refine Le.loop (fun _ => ?_)
    | refine Le.loopF (fun _ => ?_)
theorem LE_run_runner_alt_J1 (p1 : T_api_Alt) (p2 : Int) (o0_0 : (List T_api_Ins)) (o0_1 : (List T_api_Def)) (o0_2 : (List T_api_Chan)) (o0_3 : Int) (o0_4 : Int) (x25 : Bool) (x26 : Int) (x27 : Int) (x28 : Int) (x29 : Int) (x30 : Int) (x31 : Int) (x32 : Int) (x33 : Bool) (x34 : (List Int)) (x35 : (List T_api_Alt)) : Le (X_run_runner_alt_J1 p1 p2 o0_0 o0_1 o0_2 o0_3 o0_4 x25 x26 x27 x28 x29 x30 x31 x32 x33 x34 x35) (F_run_runner_alt_J1 p1 p2 o0_0 o0_1 o0_2 o0_3 o0_4 x25 x26 x27 x28 x29 x30 x31 x32 x33 x34 x35) := by
  unfold X_run_runner_alt_J1 F_run_runner_alt_J1
  repeat' with_reducible first
    | apply LE_code_Settle
    | exact Le.non _
    | exact Le.rf _
    | refine Le.grd ?_
    | refine Le.bind ?_ (fun _ => ?_)
    | refine Le.cond ?_ ?_
    | refine Le.map ?_
    | refine Le.elim (fun _ => ?_) (fun _ => ?_)
    | refine Le.lt (fun _ => ?_)
    | refine Le.loop (fun _ => ?_)
    | refine Le.loopF (fun _ => ?_)
theorem LE_run_runner_alt (p1 : T_api_Alt) (p2 : Int) (o0_0 : (List T_api_Ins)) (o0_1 : (List T_api_Def)) (o0_2 : (List T_api_Chan)) (o0_3 : Int) (o0_4 : Int) (o0_5 : Int) (o0_6 : Int) (o0_7 : (List Int)) (o0_8 : Int) (o0_9 : Int) (o0_10 : Int) (o0_11 : Int) (o0_12 : Int) (o0_13 : Int) (o0_14 : Int) (o0_15 : (List T_api_Alt)) (o0_17 : Int) (o0_18 : Int) (o0_19 : Int) (o0_20 : Int) (o0_21 : Int) (o0_22 : Int) (o0_23 : Int) (o0_24 : Int) (o0_27 : Int) (o0_28 : Bool) (o1 : T_stack_Stack_int_) (o3 : (List Int)) (o4 : (List T_api_Alt)) : Le (X_run_runner_alt p1 p2 o0_0 o0_1 o0_2 o0_3 o0_4 o0_5 o0_6 o0_7 o0_8 o0_9 o0_10 o0_11 o0_12 o0_13 o0_14 o0_15 o0_17 o0_18 o0_19 o0_20 o0_21 o0_22 o0_23 o0_24 o0_27 o0_28 o1 o3 o4) (F_run_runner_alt p1 p2 o0_0 o0_1 o0_2 o0_3 o0_4 o0_18 o0_20 o0_21 o0_22 o0_23 o0_24 o0_27 o0_28 o3 o4) := by
  unfold X_run_runner_alt F_run_runner_alt
  repeat' with_reducible first
    | apply LE_run_runner_none
    | apply LE_run_runner_alt_J1
    | exact Le.non _
    | exact Le.rf _
    | refine Le.grd ?_
    | refine Le.bind ?_ (fun _ => ?_)
    | refine Le.cond ?_ ?_
    | refine Le.map ?_
    | refine Le.elim (fun _ => ?_) (fun _ => ?_)
    | refine Le.lt (fun _ => ?_)
    | refine Le.loop (fun _ => ?_)
    | refine Le.loopF (fun _ => ?_)
theorem LE_run_runner_reckons_J1 (x32 : Int) (x33 : Int) (x34 : Int) (x35 : Int) (x36 : Int) (x37 : Int) (x38 : Int) (x39 : Int) (x40 : Bool) (x41 : Int) (x42 : (List Int)) (x43 : (List Int)) (x44 : (List T_api_Alt)) : Le (X_run_runner_reckons_J1 x32 x33 x34 x35 x36 x37 x38 x39 x40 x41 x42 x43 x44) (F_run_runner_reckons_J1 x32 x33 x34 x35 x36 x37 x38 x39 x40 x41 x42 x43 x44) := by
  unfold X_run_runner_reckons_J1 F_run_runner_reckons_J1
  repeat' with_reducible first
    | exact Le.non _
    | exact Le.rf _
    | refine Le.grd ?_
    | refine Le.bind ?_ (fun _ => ?_)
    | refine Le.cond ?_ ?_
    | refine Le.map ?_
    | refine Le.elim (fun _ => ?_) (fun _ => ?_)
    | refine Le.lt (fun _ => ?_)
    | refine Le.loop (fun _ => ?_)
    | refine Le.loopF (fun _ => ?_)
theorem LE_run_runner_reckons (p1 : T_api_Ins) (o0_0 : (List T_api_Ins)) (o0_1 : (List T_api_Def)) (o0_2 : (List T_api_Chan)) (o0_3 : Int) (o0_4 : Int) (o0_5 : Int) (o0_6 : Int) (o0_7 : (List Int)) (o0_8 : Int) (o0_9 : Int) (o0_10 : Int) (o0_11 : Int) (o0_12 : Int) (o0_13 : Int) (o0_14 : Int) (o0_15 : (List T_api_Alt)) (o0_17 : Int) (o0_18 : Int) (o0_19 : Int) (o0_20 : Int) (o0_21 : Int) (o0_22 : Int) (o0_23 : Int) (o0_24 : Int) (o0_27 : Int) (o0_28 : Bool) (o1 : T_stack_Stack_int_) (o3 : (List Int)) (o4 : (List T_api_Alt)) : Le (X_run_runner_reckons p1 o0_0 o0_1 o0_2 o0_3 o0_4 o0_5 o0_6 o0_7 o0_8 o0_9 o0_10 o0_11 o0_12 o0_13 o0_14 o0_15 o0_17 o0_18 o0_19 o0_20 o0_21 o0_22 o0_23 o0_24 o0_27 o0_28 o1 o3 o4) (F_run_runner_reckons p1 o0_0 o0_1 o0_2 o0_3 o0_4 o0_7 o0_17 o0_18 o0_20 o0_21 o0_22 o0_23 o0_24 o0_27 o0_28 o1 o3 o4) := by
  unfold X_run_runner_reckons F_run_runner_reckons
  repeat' with_reducible first
    | apply LE_run_runner_lay
    | apply LE_run_runner_reckons_J1
    | apply LE_run_runner_slot
    | apply LE_run_runner_reckon
    | apply LE_run_runner_jump
    | apply LE_run_runner_take
    | apply LE_run_runner_channel
    | apply LE_run_runner_alt
    | exact Le.non _
    | exact Le.rf _
    | refine Le.grd ?_
    | refine Le.bind ?_ (fun _ => ?_)
    | refine Le.cond ?_ ?_
    | refine Le.map ?_
    | refine Le.elim (fun _ => ?_) (fun _ => ?_)
    | refine Le.lt (fun _ => ?_)
    | refine Le.loop (fun _ => ?_)
    | refine Le.loopF (fun _ => ?_)
theorem LE_run_runner_ends_J3 (p1 : T_api_Ins) (o0_0 : (List T_api_Ins)) (o0_1 : (List T_api_Def)) (o0_2 : (List T_api_Chan)) (o0_3 : Int) (o0_4 : Int) (o0_5 : Int) (o0_6 : Int) (o0_7 : (List Int)) (o0_8 : Int) (o0_9 : Int) (o0_10 : Int) (o0_11 : Int) (o0_12 : Int) (o0_13 : Int) (o0_14 : Int) (o0_15 : (List T_api_Alt)) (o0_17 : Int) (o0_18 : Int) (o0_19 : Int) (o0_20 : Int) (o0_21 : Int) (o0_24 : Int) (o0_27 : Int) (o0_28 : Bool) (o3 : (List Int)) (y2 : Int) (y11 : Int × T_stack_Stack_int_) (x13 : Int) : Le (X_run_runner_ends_J3 p1 o0_0 o0_1 o0_2 o0_3 o0_4 o0_5 o0_6 o0_7 o0_8 o0_9 o0_10 o0_11 o0_12 o0_13 o0_14 o0_15 o0_17 o0_18 o0_19 o0_20 o0_21 o0_24 o0_27 o0_28 o3 y2 y11 x13) (F_run_runner_ends_J3 p1 o0_21 o0_24 o0_27 o3 y2 y11 x13) := by
  unfold X_run_runner_ends_J3 F_run_runner_ends_J3
  repeat' with_reducible first
    | apply LE_run_runner_end
    | exact Le.non _
    | exact Le.rf _
    | refine Le.grd ?_
    | refine Le.bind ?_ (fun _ => ?_)
    | refine Le.cond ?_ ?_
    | refine Le.map ?_
    | refine Le.elim (fun _ => ?_) (fun _ => ?_)
    | refine Le.lt (fun _ => ?_)
    | refine Le.loop (fun _ => ?_)
    | refine Le.loopF (fun _ => ?_)
theorem LE_run_runner_ends_J5 (o0_0 : (List T_api_Ins)) (o0_1 : (List T_api_Def)) (o0_2 : (List T_api_Chan)) (o0_3 : Int) (o0_4 : Int) (o0_5 : Int) (o0_6 : Int) (o0_7 : (List Int)) (o0_8 : Int) (o0_9 : Int) (o0_10 : Int) (o0_11 : Int) (o0_12 : Int) (o0_13 : Int) (o0_14 : Int) (o0_15 : (List T_api_Alt)) (o0_17 : Int) (o0_18 : Int) (o0_19 : Int) (o0_20 : Int) (o0_21 : Int) (o0_23 : Int) (o0_24 : Int) (o0_27 : Int) (o0_28 : Bool) (o3 : (List Int)) (y2 : Int) (y36 : Int × T_stack_Stack_int_) (x38 : Int) : Le (X_run_runner_ends_J5 o0_0 o0_1 o0_2 o0_3 o0_4 o0_5 o0_6 o0_7 o0_8 o0_9 o0_10 o0_11 o0_12 o0_13 o0_14 o0_15 o0_17 o0_18 o0_19 o0_20 o0_21 o0_23 o0_24 o0_27 o0_28 o3 y2 y36 x38) (F_run_runner_ends_J5 o0_21 o0_23 o0_24 o0_27 o3 y2 y36 x38) := by
  unfold X_run_runner_ends_J5 F_run_runner_ends_J5
  repeat' with_reducible first
    | apply LE_run_runner_end
    | exact Le.non _
    | exact Le.rf _
    | refine Le.grd ?_
    | refine Le.bind ?_ (fun _ => ?_)
    | refine Le.cond ?_ ?_
    | refine Le.map ?_
    | refine Le.elim (fun _ => ?_) (fun _ => ?_)
    | refine Le.lt (fun _ => ?_)
    | refine Le.loop (fun _ => ?_)
    | refine Le.loopF (fun _ => ?_)
theorem LE_run_runner_ends_J4 (p1 : T_api_Ins) (o0_0 : (List T_api_Ins)) (o0_1 : (List T_api_Def)) (o0_2 : (List T_api_Chan)) (o0_3 : Int) (o0_4 : Int) (o0_5 : Int) (o0_6 : Int) (o0_7 : (List Int)) (o0_8 : Int) (o0_9 : Int) (o0_10 : Int) (o0_11 : Int) (o0_12 : Int) (o0_13 : Int) (o0_14 : Int) (o0_15 : (List T_api_Alt)) (o0_17 : Int) (o0_18 : Int) (o0_19 : Int) (o0_20 : Int) (o0_21 : Int) (o0_22 : Int) (o0_23 : Int) (o0_24 : Int) (o0_27 : Int) (o0_28 : Bool) (o1 : T_stack_Stack_int_) (o3 : (List Int)) (o4 : (List T_api_Alt)) (y2 : Int) (x33 : Bool) : Le (X_run_runner_ends_J4 p1 o0_0 o0_1 o0_2 o0_3 o0_4 o0_5 o0_6 o0_7 o0_8 o0_9 o0_10 o0_11 o0_12 o0_13 o0_14 o0_15 o0_17 o0_18 o0_19 o0_20 o0_21 o0_22 o0_23 o0_24 o0_27 o0_28 o1 o3 o4 y2 x33) (F_run_runner_ends_J4 p1 o0_18 o0_20 o0_21 o0_22 o0_23 o0_24 o0_27 o0_28 o1 o3 o4 y2 x33) := by
  unfold X_run_runner_ends_J4 F_run_runner_ends_J4
  repeat' with_reducible first
    | apply LE_run_runner_take
    | apply LE_run_runner_ends_J5
    | apply LE_stack_Stack_int_Take
    | apply LE_run_runner_end
    | apply LE_run_runner_fault
    | exact Le.non _
    | exact Le.rf _
    | refine Le.grd ?_
    | refine Le.bind ?_ (fun _ => ?_)
    | refine Le.cond ?_ ?_
    | refine Le.map ?_
    | refine Le.elim (fun _ => ?_) (fun _ => ?_)
    | refine Le.lt (fun _ => ?_)
    | refine Le.loop (fun _ => ?_)
    | refine Le.loopF (fun _ => ?_)
theorem LE_run_runner_ends_J2 (p1 : T_api_Ins) (o0_0 : (List T_api_Ins)) (o0_1 : (List T_api_Def)) (o0_2 : (List T_api_Chan)) (o0_3 : Int) (o0_4 : Int) (o0_5 : Int) (o0_6 : Int) (o0_7 : (List Int)) (o0_8 : Int) (o0_9 : Int) (o0_10 : Int) (o0_11 : Int) (o0_12 : Int) (o0_13 : Int) (o0_14 : Int) (o0_15 : (List T_api_Alt)) (o0_17 : Int) (o0_18 : Int) (o0_19 : Int) (o0_20 : Int) (o0_21 : Int) (o0_22 : Int) (o0_23 : Int) (o0_24 : Int) (o0_27 : Int) (o0_28 : Bool) (o1 : T_stack_Stack_int_) (o3 : (List Int)) (o4 : (List T_api_Alt)) (y2 : Int) (x8 : Bool) : Le (X_run_runner_ends_J2 p1 o0_0 o0_1 o0_2 o0_3 o0_4 o0_5 o0_6 o0_7 o0_8 o0_9 o0_10 o0_11 o0_12 o0_13 o0_14 o0_15 o0_17 o0_18 o0_19 o0_20 o0_21 o0_22 o0_23 o0_24 o0_27 o0_28 o1 o3 o4 y2 x8) (F_run_runner_ends_J2 p1 o0_0 o0_1 o0_2 o0_3 o0_4 o0_18 o0_20 o0_21 o0_22 o0_23 o0_24 o0_27 o0_28 o1 o3 o4 y2 x8) := by
  unfold X_run_runner_ends_J2 F_run_runner_ends_J2
  repeat' with_reducible first
    | apply LE_run_runner_take
    | apply LE_run_runner_ends_J3
    | apply LE_run_runner_none
    | apply LE_run_runner_end
    | apply LE_run_runner_ends_J4
    | exact Le.non _
    | exact Le.rf _
    | refine Le.grd ?_
    | refine Le.bind ?_ (fun _ => ?_)
    | refine Le.cond ?_ ?_
    | refine Le.map ?_
    | refine Le.elim (fun _ => ?_) (fun _ => ?_)
    | refine Le.lt (fun _ => ?_)
    | refine Le.loop (fun _ => ?_)
    | refine Le.loopF (fun _ => ?_)
theorem LE_run_runner_ends_J1 (p1 : T_api_Ins) (p2 : Int) (o0_0 : (List T_api_Ins)) (o0_1 : (List T_api_Def)) (o0_2 : (List T_api_Chan)) (o0_3 : Int) (o0_4 : Int) (o0_5 : Int) (o0_6 : Int) (o0_7 : (List Int)) (o0_8 : Int) (o0_9 : Int) (o0_10 : Int) (o0_11 : Int) (o0_12 : Int) (o0_13 : Int) (o0_14 : Int) (o0_15 : (List T_api_Alt)) (o0_17 : Int) (o0_18 : Int) (o0_19 : Int) (o0_20 : Int) (o0_21 : Int) (o0_22 : Int) (o0_23 : Int) (o0_24 : Int) (o0_27 : Int) (o0_28 : Bool) (o1 : T_stack_Stack_int_) (o3 : (List Int)) (o4 : (List T_api_Alt)) (y2 : Int) (x4 : Bool) : Le (X_run_runner_ends_J1 p1 p2 o0_0 o0_1 o0_2 o0_3 o0_4 o0_5 o0_6 o0_7 o0_8 o0_9 o0_10 o0_11 o0_12 o0_13 o0_14 o0_15 o0_17 o0_18 o0_19 o0_20 o0_21 o0_22 o0_23 o0_24 o0_27 o0_28 o1 o3 o4 y2 x4) (F_run_runner_ends_J1 p1 p2 o0_0 o0_1 o0_2 o0_3 o0_4 o0_18 o0_20 o0_21 o0_22 o0_23 o0_24 o0_27 o0_28 o1 o3 o4 y2 x4) := by
  unfold X_run_runner_ends_J1 F_run_runner_ends_J1
  repeat' with_reducible first
    | apply LE_run_runner_end
    | apply LE_run_runner_ends_J2
    | exact Le.non _
    | exact Le.rf _
    | refine Le.grd ?_
    | refine Le.bind ?_ (fun _ => ?_)
    | refine Le.cond ?_ ?_
    | refine Le.map ?_
    | refine Le.elim (fun _ => ?_) (fun _ => ?_)
    | refine Le.lt (fun _ => ?_)
    | refine Le.loop (fun _ => ?_)
    | refine Le.loopF (fun _ => ?_)
theorem LE_run_runner_ends (p1 : T_api_Ins) (p2 : Int) (o0_0 : (List T_api_Ins)) (o0_1 : (List T_api_Def)) (o0_2 : (List T_api_Chan)) (o0_3 : Int) (o0_4 : Int) (o0_5 : Int) (o0_6 : Int) (o0_7 : (List Int)) (o0_8 : Int) (o0_9 : Int) (o0_10 : Int) (o0_11 : Int) (o0_12 : Int) (o0_13 : Int) (o0_14 : Int) (o0_15 : (List T_api_Alt)) (o0_17 : Int) (o0_18 : Int) (o0_19 : Int) (o0_20 : Int) (o0_21 : Int) (o0_22 : Int) (o0_23 : Int) (o0_24 : Int) (o0_27 : Int) (o0_28 : Bool) (o1 : T_stack_Stack_int_) (o3 : (List Int)) (o4 : (List T_api_Alt)) : Le (X_run_runner_ends p1 p2 o0_0 o0_1 o0_2 o0_3 o0_4 o0_5 o0_6 o0_7 o0_8 o0_9 o0_10 o0_11 o0_12 o0_13 o0_14 o0_15 o0_17 o0_18 o0_19 o0_20 o0_21 o0_22 o0_23 o0_24 o0_27 o0_28 o1 o3 o4) (F_run_runner_ends p1 p2 o0_0 o0_1 o0_2 o0_3 o0_4 o0_18 o0_20 o0_21 o0_22 o0_23 o0_24 o0_27 o0_28 o1 o3 o4) := by
  unfold X_run_runner_ends F_run_runner_ends
  repeat' with_reducible first
    | apply LE_code_Settle
    | apply LE_run_runner_ends_J1
    | exact Le.non _
    | exact Le.rf _
    | refine Le.grd ?_
    | refine Le.bind ?_ (fun _ => ?_)
    | refine Le.cond ?_ ?_
    | refine Le.map ?_
    | refine Le.elim (fun _ => ?_) (fun _ => ?_)
    | refine Le.lt (fun _ => ?_)
    | refine Le.loop (fun _ => ?_)
    | refine Le.loopF (fun _ => ?_)
theorem LE_run_Step_J2 (y14 : T_api_Ins) (x94 : Int) (x95 : Int) (x96 : Int) (x97 : Int) (x98 : Int) (x99 : Int) (x100 : Int) (x101 : Int) (x102 : Bool) (x103 : Int) (x104 : (List Int)) (x105 : (List Int)) (x106 : (List T_api_Alt)) : Le (X_run_Step_J2 y14 x94 x95 x96 x97 x98 x99 x100 x101 x102 x103 x104 x105 x106) (F_run_Step_J2 y14 x95 x96 x97 x98 x99 x100 x101 x105 x106) := by
  unfold X_run_Step_J2 F_run_Step_J2
  repeat' with_reducible first
    | exact Le.non _
    | exact Le.rf _
    | refine Le.grd ?_
    | refine Le.bind ?_ (fun _ => ?_)
    | refine Le.cond ?_ ?_
    | refine Le.map ?_
    | refine Le.elim (fun _ => ?_) (fun _ => ?_)
    | refine Le.lt (fun _ => ?_)
    | refine Le.loop (fun _ => ?_)
    | refine Le.loopF (fun _ => ?_)
theorem LE_run_Step_J3 (x107 : Int) (x147 : Int) (x148 : Int) (x149 : Int) (x150 : Int) (x151 : Int) (x152 : Int) (x153 : Int) (x154 : Int) (x155 : Bool) (x156 : Int) (x157 : (List Int)) (x158 : (List Int)) (x159 : (List T_api_Alt)) : Le (X_run_Step_J3 x107 x147 x148 x149 x150 x151 x152 x153 x154 x155 x156 x157 x158 x159) (F_run_Step_J3 x107 x147 x148 x149 x150 x151 x152 x153 x154 x155 x156 x157 x158 x159) := by
  unfold X_run_Step_J3 F_run_Step_J3
  repeat' with_reducible first
    | exact Le.non _
    | exact Le.rf _
    | refine Le.grd ?_
    | refine Le.bind ?_ (fun _ => ?_)
    | refine Le.cond ?_ ?_
    | refine Le.map ?_
    | refine Le.elim (fun _ => ?_) (fun _ => ?_)
    | refine Le.lt (fun _ => ?_)
    | refine Le.loop (fun _ => ?_)
    | refine Le.loopF (fun _ => ?_)
theorem LE_run_Step_J4 (p0 : T_api_Code) (p1 : T_api_Proc) (y14 : T_api_Ins) (x107 : Int) (x108 : Int) (x109 : Int) (x110 : Int) (x111 : Int) (x112 : Int) (x113 : Int) (x114 : Int) (x115 : Int) (x116 : Bool) (x117 : Int) (x118 : (List Int)) (x119 : (List Int)) (x120 : (List T_api_Alt)) (x168 : Bool) : Le (X_run_Step_J4 p0 p1 y14 x107 x108 x109 x110 x111 x112 x113 x114 x115 x116 x117 x118 x119 x120 x168) (F_run_Step_J4 p0 p1 y14 x107 x108 x109 x110 x111 x112 x113 x114 x115 x116 x117 x118 x119 x120 x168) := by
  unfold X_run_Step_J4 F_run_Step_J4
  repeat' with_reducible first
    | apply LE_run_Step_J2
    | apply LE_run_runner_reckons
    | apply LE_run_runner_ends
    | apply LE_run_Step_J3
    | exact Le.non _
    | exact Le.rf _
    | refine Le.grd ?_
    | refine Le.bind ?_ (fun _ => ?_)
    | refine Le.cond ?_ ?_
    | refine Le.map ?_
    | refine Le.elim (fun _ => ?_) (fun _ => ?_)
    | refine Le.lt (fun _ => ?_)
    | refine Le.loop (fun _ => ?_)
    | refine Le.loopF (fun _ => ?_)
theorem LE_run_Step_L5 (p0 : T_api_Code) (p1 : T_api_Proc) (y14 : T_api_Ins) (x107 : Int) (x108 : Int) (x109 : Int) (x110 : Int) (x111 : Int) (x112 : Int) (x113 : Int) (x114 : Int) (x115 : Int) (x116 : Bool) (x117 : Int) (x118 : (List Int)) (x119 : (List Int)) (x120 : (List T_api_Alt)) : Le (X_run_Step_L5 p0 p1 y14 x107 x108 x109 x110 x111 x112 x113 x114 x115 x116 x117 x118 x119 x120) (F_run_Step_L5 p0 p1 y14 x107 x108 x109 x110 x111 x112 x113 x114 x115 x116 x117 x118 x119 x120) := by
  unfold X_run_Step_L5 F_run_Step_L5
  repeat' with_reducible first
    | apply LE_run_Step_J4
    | apply LE_run_Step_J2
    | exact Le.non _
    | exact Le.rf _
    | refine Le.grd ?_
    | refine Le.bind ?_ (fun _ => ?_)
    | refine Le.cond ?_ ?_
    | refine Le.map ?_
    | refine Le.elim (fun _ => ?_) (fun _ => ?_)
    | refine Le.lt (fun _ => ?_)
    | refine Le.loop (fun _ => ?_)
    | refine Le.loopF (fun _ => ?_)
theorem LE_run_Step_J1 (p0 : T_api_Code) (p1 : T_api_Proc) (x9 : Bool) : Le (X_run_Step_J1 p0 p1 x9) (F_run_Step_J1 p0 p1 x9) := by
  unfold X_run_Step_J1 F_run_Step_J1
  repeat' with_reducible first
    | apply LE_stack_New_int
    | apply LE_run_Step_L5
    | exact Le.non _
    | exact Le.rf _
    | refine Le.grd ?_
    | refine Le.bind ?_ (fun _ => ?_)
    | refine Le.cond ?_ ?_
    | refine Le.map ?_
    | refine Le.elim (fun _ => ?_) (fun _ => ?_)
    | refine Le.lt (fun _ => ?_)
    | refine Le.loop (fun _ => ?_)
    | refine Le.loopF (fun _ => ?_)
theorem LE_run_Step (p0 : T_api_Code) (p1 : T_api_Proc) : Le (X_run_Step p0 p1) (F_run_Step p0 p1) := by
  unfold X_run_Step F_run_Step
  repeat' with_reducible first
    | apply LE_run_Step_J1
    | apply LE_code_Stmt
    | exact Le.non _
    | exact Le.rf _
    | refine Le.grd ?_
    | refine Le.bind ?_ (fun _ => ?_)
    | refine Le.cond ?_ ?_
    | refine Le.map ?_
    | refine Le.elim (fun _ => ?_) (fun _ => ?_)
    | refine Le.lt (fun _ => ?_)
    | refine Le.loop (fun _ => ?_)
    | refine Le.loopF (fun _ => ?_)
theorem LE_slices_Equal_int_int_L1 (p0 : (List Int)) (p1 : (List Int)) (x22 : Int) : Le (X_slices_Equal_int_int_L1 p0 p1 x22) (F_slices_Equal_int_int_L1 p0 p1 x22) := by
  unfold X_slices_Equal_int_int_L1 F_slices_Equal_int_int_L1
  repeat' with_reducible first
    | exact Le.non _
    | exact Le.rf _
    | refine Le.grd ?_
    | refine Le.bind ?_ (fun _ => ?_)
    | refine Le.cond ?_ ?_
    | refine Le.map ?_
    | refine Le.elim (fun _ => ?_) (fun _ => ?_)
    | refine Le.lt (fun _ => ?_)
    | refine Le.loop (fun _ => ?_)
    | refine Le.loopF (fun _ => ?_)
theorem LE_slices_Equal_int_int (p0 : (List Int)) (p1 : (List Int)) : Le (X_slices_Equal_int_int p0 p1) (F_slices_Equal_int_int p0 p1) := by
  unfold X_slices_Equal_int_int F_slices_Equal_int_int
  repeat' with_reducible first
    | apply LE_slices_Equal_int_int_L1
    | exact Le.non _
    | exact Le.rf _
    | refine Le.grd ?_
    | refine Le.bind ?_ (fun _ => ?_)
    | refine Le.cond ?_ ?_
    | refine Le.map ?_
    | refine Le.elim (fun _ => ?_) (fun _ => ?_)
    | refine Le.lt (fun _ => ?_)
    | refine Le.loop (fun _ => ?_)
    | refine Le.loopF (fun _ => ?_)
theorem LE_slices_Equal_retrace_api_Alt_retrace_api_Alt_L1 (p0 : (List T_api_Alt)) (p1 : (List T_api_Alt)) (x22 : Int) : Le (X_slices_Equal_retrace_api_Alt_retrace_api_Alt_L1 p0 p1 x22) (F_slices_Equal_retrace_api_Alt_retrace_api_Alt_L1 p0 p1 x22) := by
  unfold X_slices_Equal_retrace_api_Alt_retrace_api_Alt_L1 F_slices_Equal_retrace_api_Alt_retrace_api_Alt_L1
  repeat' with_reducible first
    | exact Le.non _
    | exact Le.rf _
    | refine Le.grd ?_
    | refine Le.bind ?_ (fun _ => ?_)
    | refine Le.cond ?_ ?_
    | refine Le.map ?_
    | refine Le.elim (fun _ => ?_) (fun _ => ?_)
    | refine Le.lt (fun _ => ?_)
    | refine Le.loop (fun _ => ?_)
    | refine Le.loopF (fun _ => ?_)
theorem LE_slices_Equal_retrace_api_Alt_retrace_api_Alt (p0 : (List T_api_Alt)) (p1 : (List T_api_Alt)) : Le (X_slices_Equal_retrace_api_Alt_retrace_api_Alt p0 p1) (F_slices_Equal_retrace_api_Alt_retrace_api_Alt p0 p1) := by
  unfold X_slices_Equal_retrace_api_Alt_retrace_api_Alt F_slices_Equal_retrace_api_Alt_retrace_api_Alt
  repeat' with_reducible first
    | apply LE_slices_Equal_retrace_api_Alt_retrace_api_Alt_L1
    | exact Le.non _
    | exact Le.rf _
    | refine Le.grd ?_
    | refine Le.bind ?_ (fun _ => ?_)
    | refine Le.cond ?_ ?_
    | refine Le.map ?_
    | refine Le.elim (fun _ => ?_) (fun _ => ?_)
    | refine Le.lt (fun _ => ?_)
    | refine Le.loop (fun _ => ?_)
    | refine Le.loopF (fun _ => ?_)
theorem LE_run_Same_J1 (x12 : Bool) : Le (X_run_Same_J1 x12) (F_run_Same_J1 x12) := by
  unfold X_run_Same_J1 F_run_Same_J1
  repeat' with_reducible first
    | exact Le.non _
    | exact Le.rf _
    | refine Le.grd ?_
    | refine Le.bind ?_ (fun _ => ?_)
    | refine Le.cond ?_ ?_
    | refine Le.map ?_
    | refine Le.elim (fun _ => ?_) (fun _ => ?_)
    | refine Le.lt (fun _ => ?_)
    | refine Le.loop (fun _ => ?_)
    | refine Le.loopF (fun _ => ?_)
theorem LE_run_Same (p0 : T_api_Effect) (p1 : T_api_Effect) : Le (X_run_Same p0 p1) (F_run_Same p0 p1) := by
  unfold X_run_Same F_run_Same
  repeat' with_reducible first
    | apply LE_slices_Equal_int_int
    | apply LE_slices_Equal_retrace_api_Alt_retrace_api_Alt
    | apply LE_run_Same_J1
    | exact Le.non _
    | exact Le.rf _
    | refine Le.grd ?_
    | refine Le.bind ?_ (fun _ => ?_)
    | refine Le.cond ?_ ?_
    | refine Le.map ?_
    | refine Le.elim (fun _ => ?_) (fun _ => ?_)
    | refine Le.lt (fun _ => ?_)
    | refine Le.loop (fun _ => ?_)
    | refine Le.loopF (fun _ => ?_)
theorem LE_retracelaw24_live_J1 (x9 : Bool) : Le (X_retracelaw24_live_J1 x9) (F_retracelaw24_live_J1 x9) := by
  unfold X_retracelaw24_live_J1 F_retracelaw24_live_J1
  repeat' with_reducible first
    | exact Le.non _
    | exact Le.rf _
    | refine Le.grd ?_
    | refine Le.bind ?_ (fun _ => ?_)
    | refine Le.cond ?_ ?_
    | refine Le.map ?_
    | refine Le.elim (fun _ => ?_) (fun _ => ?_)
    | refine Le.lt (fun _ => ?_)
    | refine Le.loop (fun _ => ?_)
    | refine Le.loopF (fun _ => ?_)
theorem LE_retracelaw24_live  : Le (X_retracelaw24_live ) (F_retracelaw24_live ) := by
  unfold X_retracelaw24_live F_retracelaw24_live
  repeat' with_reducible first
    | apply LE_retraceref19_Text
    | apply LE_run_Step
    | apply LE_run_Same
    | apply LE_retracelaw24_live_J1
    | exact Le.non _
    | exact Le.rf _
    | refine Le.grd ?_
    | refine Le.bind ?_ (fun _ => ?_)
    | refine Le.cond ?_ ?_
    | refine Le.map ?_
    | refine Le.elim (fun _ => ?_) (fun _ => ?_)
    | refine Le.lt (fun _ => ?_)
    | refine Le.loop (fun _ => ?_)
    | refine Le.loopF (fun _ => ?_)
theorem ev_retracelaw24_live : F_retracelaw24_live = some true := LE_retracelaw24_live _ (by kernel_rfl)
end Go.Ab
