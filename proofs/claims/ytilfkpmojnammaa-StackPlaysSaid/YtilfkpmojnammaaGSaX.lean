import Derived.Test.YtilfkpmojnammaaGSa
import Derived.Test.YtilfkpmojnammaaAbEval
namespace Go.Ab
open Go.Proofs
set_option linter.unusedVariables false
noncomputable def X_stack_New_int (p0 : Int) : Option (T_stack_Stack_int_) :=
  some (⟨([] : (List Int)), (if 0 > p0 then 0 else p0)⟩ : T_stack_Stack_int_)
noncomputable def X_stack_Stack_int_Room (o0 : T_stack_Stack_int_) : Option (Int) :=
  some (w64 (o0.most - ((o0.l).length : Int)))
noncomputable def X_stack_Stack_int_Push (p1 : Int) (o0 : T_stack_Stack_int_) : Option (Bool × T_stack_Stack_int_) :=
  (X_stack_Stack_int_Room o0).bind fun y5 => cond (y5 == 0) (some (false, o0)) (grd (((o0.l).length + ([p1]).length) * 8 ≤ 140737488355328) <| some (true, (⟨(o0.l ++ [p1]), o0.most⟩ : T_stack_Stack_int_)))
noncomputable def X_stack_Stack_int_Len (o0 : T_stack_Stack_int_) : Option (Int) :=
  some ((o0.l).length : Int)
noncomputable def X_slices_Clone_int_int (p0 : (List Int)) : Option ((List Int)) :=
  grd (((([] : List Int)).length + (p0).length) * 8 ≤ 140737488355328) <| some (([] : List Int) ++ p0)
noncomputable def X_stack_Stack_int_Take_J1 (p1 : Int) (o0 : T_stack_Stack_int_) (y2 : Int) (x8 : Bool) : Option (((List Int) × Bool) ⊕ ((List Int) × Bool × T_stack_Stack_int_)) :=
  cond x8 (some (.inl (([] : List Int), false))) (grd ((0 : Int) ≤ (w64 (y2 - p1)) ∧ (w64 (y2 - p1)) ≤ ((o0.l).length : Int) ∧ ((o0.l).length : Int) ≤ ((o0.l).length : Int)) <| (X_slices_Clone_int_int (lCut o0.l (w64 (y2 - p1)) ((o0.l).length : Int))).bind fun y13 => grd ((0 : Int) ≤ 0 ∧ 0 ≤ (w64 (y2 - p1)) ∧ (w64 (y2 - p1)) ≤ ((o0.l).length : Int) ∧ (w64 (y2 - p1)) = (w64 (y2 - p1))) <| some (.inr (y13, true, (⟨(lCut o0.l 0 (w64 (y2 - p1))), o0.most⟩ : T_stack_Stack_int_))))
noncomputable def X_stack_Stack_int_Take (p1 : Int) (o0 : T_stack_Stack_int_) : Option (((List Int) × Bool) ⊕ ((List Int) × Bool × T_stack_Stack_int_)) :=
  (X_stack_Stack_int_Len o0).bind fun y2 => cond (decide (p1 < 0)) (X_stack_Stack_int_Take_J1 p1 o0 y2 true) (X_stack_Stack_int_Take_J1 p1 o0 y2 (decide ((w64 (y2 - p1)) < 0)))
noncomputable def X_stack_Stack_int_Len_v2 (o0 : T_stack_Stack_int_) : Option (Int) :=
  some ((o0.l).length : Int)
noncomputable def X_stack_Stack_int_Room_v2 (o0 : T_stack_Stack_int_) : Option (Int) :=
  some (w64 (o0.most - ((o0.l).length : Int)))
noncomputable def X_retracelaw23_live_J2 (x24 : Bool) : Option (Bool) :=
  some x24
noncomputable def X_retracelaw23_live_J1 (y6 : Bool × T_stack_Stack_int_) (y7 : Bool × T_stack_Stack_int_) (y8 : Bool × T_stack_Stack_int_) (x12 : Bool) (x13 : (List Int)) : Option (Bool) :=
  cond y6.1 (cond y7.1 (cond (!y8.1) (cond x12 (cond (((x13).length : Int) == 2) ((lAt x13 0).bind fun y30 => cond (y30 == 1) ((X_stack_Stack_int_Len y8.2).bind fun y32 => cond (y32 == 0) ((X_stack_Stack_int_Room y8.2).bind fun y34 => X_retracelaw23_live_J2 (y34 == 2)) (X_retracelaw23_live_J2 false)) (X_retracelaw23_live_J2 false)) (X_retracelaw23_live_J2 false)) (X_retracelaw23_live_J2 false)) (X_retracelaw23_live_J2 false)) (X_retracelaw23_live_J2 false)) (X_retracelaw23_live_J2 false)
noncomputable def X_retracelaw23_live_J4 (x49 : Bool) : Option (Bool) :=
  some x49
noncomputable def X_retracelaw23_live_J3 (y6 : Bool × T_stack_Stack_int_) (y7 : Bool × T_stack_Stack_int_) (y8 : Bool × T_stack_Stack_int_) (x35 : Bool) (x36 : (List Int)) (x37 : Int) (x38 : (List Int)) : Option (Bool) :=
  cond y6.1 (cond y7.1 (cond (!y8.1) (cond x35 (cond (((x38).length : Int) == 2) ((lAt x38 0).bind fun y55 => cond (y55 == 1) ((X_stack_Stack_int_Len_v2 (⟨x36, x37⟩ : T_stack_Stack_int_)).bind fun y57 => cond (y57 == 0) ((X_stack_Stack_int_Room_v2 (⟨x36, x37⟩ : T_stack_Stack_int_)).bind fun y59 => X_retracelaw23_live_J4 (y59 == 2)) (X_retracelaw23_live_J4 false)) (X_retracelaw23_live_J4 false)) (X_retracelaw23_live_J4 false)) (X_retracelaw23_live_J4 false)) (X_retracelaw23_live_J4 false)) (X_retracelaw23_live_J4 false)) (X_retracelaw23_live_J4 false)
noncomputable def X_retracelaw23_live  : Option (Bool) :=
  (X_stack_New_int 2).bind fun y2 => (X_stack_Stack_int_Push 1 (⟨([] : List Int), y2.most⟩ : T_stack_Stack_int_)).bind fun y6 => (X_stack_Stack_int_Push 2 y6.2).bind fun y7 => (X_stack_Stack_int_Push 3 y7.2).bind fun y8 => (X_stack_Stack_int_Take 2 y8.2).bind fun y60 => (Sum.elim (fun y61 => X_retracelaw23_live_J1 y6 y7 y8 y61.2 y61.1) (fun y62 => X_retracelaw23_live_J3 y6 y7 y8 y62.2.1 y62.2.2.l y62.2.2.most y62.1)) y60
theorem LE_stack_New_int (p0 : Int) : Le (X_stack_New_int p0) (F_stack_New_int p0) := by
  unfold X_stack_New_int F_stack_New_int
  repeat' with_reducible first
    | exact Le.non _
    | exact Le.rf _
    | refine Le.grd ?_
    | refine Le.bind ?_ (fun _ => ?_)
    | refine Le.cond ?_ ?_
    | refine Le.map ?_
    | refine Le.elim (fun _ => ?_) (fun _ => ?_)
    | refine Le.loop (fun _ => ?_)
    | refine Le.loopF (fun _ => ?_)
theorem LE_stack_Stack_int_Room (o0 : T_stack_Stack_int_) : Le (X_stack_Stack_int_Room o0) (F_stack_Stack_int_Room o0) := by
  unfold X_stack_Stack_int_Room F_stack_Stack_int_Room
  repeat' with_reducible first
    | exact Le.non _
    | exact Le.rf _
    | refine Le.grd ?_
    | refine Le.bind ?_ (fun _ => ?_)
    | refine Le.cond ?_ ?_
    | refine Le.map ?_
    | refine Le.elim (fun _ => ?_) (fun _ => ?_)
    | refine Le.loop (fun _ => ?_)
    | refine Le.loopF (fun _ => ?_)
theorem LE_stack_Stack_int_Push (p1 : Int) (o0 : T_stack_Stack_int_) : Le (X_stack_Stack_int_Push p1 o0) (F_stack_Stack_int_Push p1 o0) := by
  unfold X_stack_Stack_int_Push F_stack_Stack_int_Push
  repeat' with_reducible first
    | apply LE_stack_Stack_int_Room
    | exact Le.non _
    | exact Le.rf _
    | refine Le.grd ?_
    | refine Le.bind ?_ (fun _ => ?_)
    | refine Le.cond ?_ ?_
    | refine Le.map ?_
    | refine Le.elim (fun _ => ?_) (fun _ => ?_)
    | refine Le.loop (fun _ => ?_)
    | refine Le.loopF (fun _ => ?_)
theorem LE_stack_Stack_int_Len (o0 : T_stack_Stack_int_) : Le (X_stack_Stack_int_Len o0) (F_stack_Stack_int_Len o0) := by
  unfold X_stack_Stack_int_Len F_stack_Stack_int_Len
  repeat' with_reducible first
    | exact Le.non _
    | exact Le.rf _
    | refine Le.grd ?_
    | refine Le.bind ?_ (fun _ => ?_)
    | refine Le.cond ?_ ?_
    | refine Le.map ?_
    | refine Le.elim (fun _ => ?_) (fun _ => ?_)
    | refine Le.loop (fun _ => ?_)
    | refine Le.loopF (fun _ => ?_)
theorem LE_slices_Clone_int_int (p0 : (List Int)) : Le (X_slices_Clone_int_int p0) (F_slices_Clone_int_int p0) := by
  unfold X_slices_Clone_int_int F_slices_Clone_int_int
  repeat' with_reducible first
    | exact Le.non _
    | exact Le.rf _
    | refine Le.grd ?_
    | refine Le.bind ?_ (fun _ => ?_)
    | refine Le.cond ?_ ?_
    | refine Le.map ?_
    | refine Le.elim (fun _ => ?_) (fun _ => ?_)
    | refine Le.loop (fun _ => ?_)
    | refine Le.loopF (fun _ => ?_)
theorem LE_stack_Stack_int_Take_J1 (p1 : Int) (o0 : T_stack_Stack_int_) (y2 : Int) (x8 : Bool) : Le (X_stack_Stack_int_Take_J1 p1 o0 y2 x8) (F_stack_Stack_int_Take_J1 p1 o0 y2 x8) := by
  unfold X_stack_Stack_int_Take_J1 F_stack_Stack_int_Take_J1
  repeat' with_reducible first
    | apply LE_slices_Clone_int_int
    | exact Le.non _
    | exact Le.rf _
    | refine Le.grd ?_
    | refine Le.bind ?_ (fun _ => ?_)
    | refine Le.cond ?_ ?_
    | refine Le.map ?_
    | refine Le.elim (fun _ => ?_) (fun _ => ?_)
    | refine Le.loop (fun _ => ?_)
    | refine Le.loopF (fun _ => ?_)
theorem LE_stack_Stack_int_Take (p1 : Int) (o0 : T_stack_Stack_int_) : Le (X_stack_Stack_int_Take p1 o0) (F_stack_Stack_int_Take p1 o0) := by
  unfold X_stack_Stack_int_Take F_stack_Stack_int_Take
  repeat' with_reducible first
    | apply LE_stack_Stack_int_Len
    | apply LE_stack_Stack_int_Take_J1
    | exact Le.non _
    | exact Le.rf _
    | refine Le.grd ?_
    | refine Le.bind ?_ (fun _ => ?_)
    | refine Le.cond ?_ ?_
    | refine Le.map ?_
    | refine Le.elim (fun _ => ?_) (fun _ => ?_)
    | refine Le.loop (fun _ => ?_)
    | refine Le.loopF (fun _ => ?_)
theorem LE_stack_Stack_int_Len_v2 (o0 : T_stack_Stack_int_) : Le (X_stack_Stack_int_Len_v2 o0) (F_stack_Stack_int_Len_v2 o0) := by
  unfold X_stack_Stack_int_Len_v2 F_stack_Stack_int_Len_v2
  repeat' with_reducible first
    | exact Le.non _
    | exact Le.rf _
    | refine Le.grd ?_
    | refine Le.bind ?_ (fun _ => ?_)
    | refine Le.cond ?_ ?_
    | refine Le.map ?_
    | refine Le.elim (fun _ => ?_) (fun _ => ?_)
    | refine Le.loop (fun _ => ?_)
    | refine Le.loopF (fun _ => ?_)
theorem LE_stack_Stack_int_Room_v2 (o0 : T_stack_Stack_int_) : Le (X_stack_Stack_int_Room_v2 o0) (F_stack_Stack_int_Room_v2 o0) := by
  unfold X_stack_Stack_int_Room_v2 F_stack_Stack_int_Room_v2
  repeat' with_reducible first
    | exact Le.non _
    | exact Le.rf _
    | refine Le.grd ?_
    | refine Le.bind ?_ (fun _ => ?_)
    | refine Le.cond ?_ ?_
    | refine Le.map ?_
    | refine Le.elim (fun _ => ?_) (fun _ => ?_)
    | refine Le.loop (fun _ => ?_)
    | refine Le.loopF (fun _ => ?_)
theorem LE_retracelaw23_live_J2 (x24 : Bool) : Le (X_retracelaw23_live_J2 x24) (F_retracelaw23_live_J2 x24) := by
  unfold X_retracelaw23_live_J2 F_retracelaw23_live_J2
  repeat' with_reducible first
    | exact Le.non _
    | exact Le.rf _
    | refine Le.grd ?_
    | refine Le.bind ?_ (fun _ => ?_)
    | refine Le.cond ?_ ?_
    | refine Le.map ?_
    | refine Le.elim (fun _ => ?_) (fun _ => ?_)
    | refine Le.loop (fun _ => ?_)
    | refine Le.loopF (fun _ => ?_)
theorem LE_retracelaw23_live_J1 (y6 : Bool × T_stack_Stack_int_) (y7 : Bool × T_stack_Stack_int_) (y8 : Bool × T_stack_Stack_int_) (x12 : Bool) (x13 : (List Int)) : Le (X_retracelaw23_live_J1 y6 y7 y8 x12 x13) (F_retracelaw23_live_J1 y6 y7 y8 x12 x13) := by
  unfold X_retracelaw23_live_J1 F_retracelaw23_live_J1
  repeat' with_reducible first
    | apply LE_stack_Stack_int_Len
    | apply LE_stack_Stack_int_Room
    | apply LE_retracelaw23_live_J2
    | exact Le.non _
    | exact Le.rf _
    | refine Le.grd ?_
    | refine Le.bind ?_ (fun _ => ?_)
    | refine Le.cond ?_ ?_
    | refine Le.map ?_
    | refine Le.elim (fun _ => ?_) (fun _ => ?_)
    | refine Le.loop (fun _ => ?_)
    | refine Le.loopF (fun _ => ?_)
theorem LE_retracelaw23_live_J4 (x49 : Bool) : Le (X_retracelaw23_live_J4 x49) (F_retracelaw23_live_J4 x49) := by
  unfold X_retracelaw23_live_J4 F_retracelaw23_live_J4
  repeat' with_reducible first
    | exact Le.non _
    | exact Le.rf _
    | refine Le.grd ?_
    | refine Le.bind ?_ (fun _ => ?_)
    | refine Le.cond ?_ ?_
    | refine Le.map ?_
    | refine Le.elim (fun _ => ?_) (fun _ => ?_)
    | refine Le.loop (fun _ => ?_)
    | refine Le.loopF (fun _ => ?_)
theorem LE_retracelaw23_live_J3 (y6 : Bool × T_stack_Stack_int_) (y7 : Bool × T_stack_Stack_int_) (y8 : Bool × T_stack_Stack_int_) (x35 : Bool) (x36 : (List Int)) (x37 : Int) (x38 : (List Int)) : Le (X_retracelaw23_live_J3 y6 y7 y8 x35 x36 x37 x38) (F_retracelaw23_live_J3 y6 y7 y8 x35 x36 x37 x38) := by
  unfold X_retracelaw23_live_J3 F_retracelaw23_live_J3
  repeat' with_reducible first
    | apply LE_stack_Stack_int_Len_v2
    | apply LE_stack_Stack_int_Room_v2
    | apply LE_retracelaw23_live_J4
    | exact Le.non _
    | exact Le.rf _
    | refine Le.grd ?_
    | refine Le.bind ?_ (fun _ => ?_)
    | refine Le.cond ?_ ?_
    | refine Le.map ?_
    | refine Le.elim (fun _ => ?_) (fun _ => ?_)
    | refine Le.loop (fun _ => ?_)
    | refine Le.loopF (fun _ => ?_)
theorem LE_retracelaw23_live  : Le (X_retracelaw23_live ) (F_retracelaw23_live ) := by
  unfold X_retracelaw23_live F_retracelaw23_live
  repeat' with_reducible first
    | apply LE_stack_New_int
    | apply LE_stack_Stack_int_Push
    | apply LE_stack_Stack_int_Take
    | apply LE_retracelaw23_live_J1
    | apply LE_retracelaw23_live_J3
    | exact Le.non _
    | exact Le.rf _
    | refine Le.grd ?_
    | refine Le.bind ?_ (fun _ => ?_)
    | refine Le.cond ?_ ?_
    | refine Le.map ?_
    | refine Le.elim (fun _ => ?_) (fun _ => ?_)
    | refine Le.loop (fun _ => ?_)
    | refine Le.loopF (fun _ => ?_)
theorem ev_retracelaw23_live : F_retracelaw23_live = some true := LE_retracelaw23_live _ (by kernel_rfl)
end Go.Ab
