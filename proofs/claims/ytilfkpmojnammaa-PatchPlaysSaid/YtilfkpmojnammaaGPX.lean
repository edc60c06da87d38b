import Derived.Test.YtilfkpmojnammaaGP
import Derived.Test.YtilfkpmojnammaaAbEval
namespace Go.Ab
open Go.Proofs
set_option linter.unusedVariables false
noncomputable def X_patch_Asm_Label (o0 : T_patch_Asm) : Option (Int × T_patch_Asm) :=
  grd (((o0.labels).length + ([(-1)]).length) * 8 ≤ 140737488355328) <| some ((((o0.labels ++ [(-1)])).length : Int), (⟨o0.cells, (o0.labels ++ [(-1)])⟩ : T_patch_Asm))
noncomputable def X_patch_Asm_Go (p1 : Int) (p2 : Int) (p3 : Int) (p4 : Int) (o0 : T_patch_Asm) : Option (Int × T_patch_Asm) :=
  grd (((o0.cells).length + ([(⟨(⟨p1, p2, p3⟩ : T_api_Ins), p4, true⟩ : T_patch_cell)]).length) * 40 ≤ 140737488355328) <| some ((w64 ((((o0.cells ++ [(⟨(⟨p1, p2, p3⟩ : T_api_Ins), p4, true⟩ : T_patch_cell)])).length : Int) - 1)), (⟨(o0.cells ++ [(⟨(⟨p1, p2, p3⟩ : T_api_Ins), p4, true⟩ : T_patch_cell)]), o0.labels⟩ : T_patch_Asm))
noncomputable def X_patch_Asm_Put_L1 (o0 : T_patch_Asm) (o3 : (List T_api_Ins)) (x15 : Int) (x16 : (List T_patch_cell)) : Option ((Int × (List T_patch_cell)) ⊕ (Int × T_patch_Asm)) :=
  cond (decide (x15 < ((o3).length : Int))) ((lAt o3 x15).bind fun y25 => grd (((x16).length + ([(⟨y25, 0, false⟩ : T_patch_cell)]).length) * 40 ≤ 140737488355328) <| some (.inl ((w64 (x15 + 1)), (x16 ++ [(⟨y25, 0, false⟩ : T_patch_cell)])))) ((some (((o0.cells).length : Int), (⟨x16, o0.labels⟩ : T_patch_Asm))).map Sum.inr)
noncomputable def X_patch_Asm_Put (o0 : T_patch_Asm) (o3 : (List T_api_Ins)) : Option (Int × T_patch_Asm) :=
  Loopx (fun s : (Int × (List T_patch_cell)) => X_patch_Asm_Put_L1 o0 o3 s.1 s.2) (0, o0.cells)
noncomputable def X_patch_Asm_has_J1 (x2 : Bool) : Option (Bool) :=
  some x2
noncomputable def X_patch_Asm_has (p1 : Int) (o0 : T_patch_Asm) : Option (Bool) :=
  cond (decide (1 ≤ p1)) (X_patch_Asm_has_J1 (decide (p1 ≤ ((o0.labels).length : Int)))) (X_patch_Asm_has_J1 false)
noncomputable def X_patch_Asm_Bind (p1 : Int) (o0 : T_patch_Asm) : Option (Int × T_patch_Asm) :=
  (X_patch_Asm_has p1 o0).bind fun y5 => cond (!y5) (some (1, o0)) ((lAt o0.labels (w64 (p1 - 1))).bind fun y11 => cond (decide (0 ≤ y11)) (some (8, o0)) (grd ((0 : Int) ≤ (w64 (p1 - 1)) ∧ (w64 (p1 - 1)) < (o0.labels).length) <| some (0, (⟨o0.cells, (List.set o0.labels (Int.toNat (w64 (p1 - 1))) ((o0.cells).length : Int))⟩ : T_patch_Asm))))
noncomputable def X_patch_Target_J1 (p0 : T_api_Ins) (x19 : Bool) : Option (Int × Bool) :=
  cond x19 (some (p0.A, true)) (cond (p0.Op == 19) (some (p0.B, true)) (some (0, false)))
noncomputable def X_patch_Target (p0 : T_api_Ins) : Option (Int × Bool) :=
  cond (p0.Op == 6) (X_patch_Target_J1 p0 (p0.Op == 6)) (cond (p0.Op == 7) (X_patch_Target_J1 p0 (p0.Op == 7)) (cond (p0.Op == 8) (X_patch_Target_J1 p0 (p0.Op == 8)) (cond (p0.Op == 20) (X_patch_Target_J1 p0 (p0.Op == 20)) (cond (p0.Op == 21) (X_patch_Target_J1 p0 (p0.Op == 21)) (X_patch_Target_J1 p0 (p0.Op == 22))))))
noncomputable def X_patch_Aim_J1 (p0 : T_api_Ins) (x8 : Int) (x9 : Int) : Option (T_api_Ins) :=
  some (⟨p0.Op, x8, x9⟩ : T_api_Ins)
noncomputable def X_patch_Aim (p0 : T_api_Ins) (p1 : Int) : Option (T_api_Ins) :=
  (X_patch_Target p0).bind fun y5 => cond (!y5.2) (some p0) (cond (p0.Op == 19) (X_patch_Aim_J1 p0 p0.A p1) (X_patch_Aim_J1 p0 p1 p0.B))
noncomputable def X_patch_Asm_Done_J1 (x40 : Int) (x59 : (List T_api_Ins)) : Option ((Int × (List T_api_Ins)) ⊕ ((List T_api_Ins) × Int)) :=
  some (.inl ((w64 (x40 + 1)), x59))
noncomputable def X_patch_Asm_Done_L2 (o0 : T_patch_Asm) (x40 : Int) (x41 : (List T_api_Ins)) : Option ((Int × (List T_api_Ins)) ⊕ ((List T_api_Ins) × Int)) :=
  cond (decide (x40 < ((o0.cells).length : Int))) ((lAt o0.cells x40).bind fun y61 => cond (!y61.aimed) (grd (((x41).length + ([y61.Ins]).length) * 24 ≤ 140737488355328) <| X_patch_Asm_Done_J1 x40 (x41 ++ [y61.Ins])) ((X_patch_Asm_has y61.label o0).bind fun y65 => cond (!y65) ((some (([] : List T_api_Ins), 1)).map Sum.inr) ((lAt o0.labels (w64 (y61.label - 1))).bind fun y70 => cond (decide (y70 < 0)) ((some (([] : List T_api_Ins), 7)).map Sum.inr) ((lAt o0.labels (w64 (y61.label - 1))).bind fun y74 => (X_patch_Aim y61.Ins y74).bind fun y75 => grd (((x41).length + ([y75]).length) * 24 ≤ 140737488355328) <| X_patch_Asm_Done_J1 x40 (x41 ++ [y75]))))) ((some (x41, 0)).map Sum.inr)
noncomputable def X_patch_Asm_Done (o0 : T_patch_Asm) : Option ((List T_api_Ins) × Int) :=
  Loopx (fun s : (Int × (List T_api_Ins)) => X_patch_Asm_Done_L2 o0 s.1 s.2) (0, ([] : (List T_api_Ins)))
noncomputable def X_patch_Asm_Len (o0 : T_patch_Asm) : Option (Int) :=
  some ((o0.cells).length : Int)
noncomputable def X_retracelaw17_live_J1 (x18 : Bool) : Option (Bool) :=
  some x18
noncomputable def X_retracelaw17_live  : Option (Bool) :=
  (X_patch_Asm_Label (⟨([] : List T_patch_cell), ([] : List Int)⟩ : T_patch_Asm)).bind fun y2 => (X_patch_Asm_Go 6 0 0 y2.1 y2.2).bind fun y4 => (X_patch_Asm_Put y4.2 ([(⟨17, 0, 0⟩ : T_api_Ins)])).bind fun y6 => (X_patch_Asm_Bind y2.1 y6.2).bind fun y8 => (X_patch_Asm_Done y8.2).bind fun y10 => cond (y2.1 == 1) (cond (y8.1 == 0) (cond (y10.2 == 0) (cond (((y10.1).length : Int) == 2) ((lAt y10.1 0).bind fun y23 => cond ((y23.Op == 6) && ((y23.A == 2) && ((y23.B == 0) && true))) ((X_patch_Asm_Len y8.2).bind fun y25 => X_retracelaw17_live_J1 (y25 == 2)) (X_retracelaw17_live_J1 false)) (X_retracelaw17_live_J1 false)) (X_retracelaw17_live_J1 false)) (X_retracelaw17_live_J1 false)) (X_retracelaw17_live_J1 false)
theorem LE_patch_Asm_Label (o0 : T_patch_Asm) : Le (X_patch_Asm_Label o0) (F_patch_Asm_Label o0) := by
  unfold X_patch_Asm_Label F_patch_Asm_Label
  repeat' with_reducible first
    | exact Le.non _
    | exact Le.rf _
    | refine Le.grd ?_
    | refine Le.bind ?_ (fun _ => ?_)
    | refine Le.cond ?_ ?_
    | refine Le.map ?_
    | refine Le.elim (fun _ => ?_) (fun _ => ?_)
    | refine Le.loop (fun _ => ?_)
    | refine Le.loopF (fun _ => ?_)
theorem LE_patch_Asm_Go (p1 : Int) (p2 : Int) (p3 : Int) (p4 : Int) (o0 : T_patch_Asm) : Le (X_patch_Asm_Go p1 p2 p3 p4 o0) (F_patch_Asm_Go p1 p2 p3 p4 o0) := by
  unfold X_patch_Asm_Go F_patch_Asm_Go
  repeat' with_reducible first
    | exact Le.non _
    | exact Le.rf _
    | refine Le.grd ?_
    | refine Le.bind ?_ (fun _ => ?_)
    | refine Le.cond ?_ ?_
    | refine Le.map ?_
    | refine Le.elim (fun _ => ?_) (fun _ => ?_)
    | refine Le.loop (fun _ => ?_)
    | refine Le.loopF (fun _ => ?_)
theorem LE_patch_Asm_Put_L1 (o0 : T_patch_Asm) (o3 : (List T_api_Ins)) (x15 : Int) (x16 : (List T_patch_cell)) : Le (X_patch_Asm_Put_L1 o0 o3 x15 x16) (F_patch_Asm_Put_L1 o0 o3 x15 x16) := by
  unfold X_patch_Asm_Put_L1 F_patch_Asm_Put_L1
  repeat' with_reducible first
    | exact Le.non _
    | exact Le.rf _
    | refine Le.grd ?_
    | refine Le.bind ?_ (fun _ => ?_)
    | refine Le.cond ?_ ?_
    | refine Le.map ?_
    | refine Le.elim (fun _ => ?_) (fun _ => ?_)
    | refine Le.loop (fun _ => ?_)
    | refine Le.loopF (fun _ => ?_)
theorem LE_patch_Asm_Put (o0 : T_patch_Asm) (o3 : (List T_api_Ins)) : Le (X_patch_Asm_Put o0 o3) (F_patch_Asm_Put o0 o3) := by
  unfold X_patch_Asm_Put F_patch_Asm_Put
  repeat' with_reducible first
    | apply LE_patch_Asm_Put_L1
    | exact Le.non _
    | exact Le.rf _
    | refine Le.grd ?_
    | refine Le.bind ?_ (fun _ => ?_)
    | refine Le.cond ?_ ?_
    | refine Le.map ?_
    | refine Le.elim (fun _ => ?_) (fun _ => ?_)
    | refine Le.loop (fun _ => ?_)
    | refine Le.loopF (fun _ => ?_)
theorem LE_patch_Asm_has_J1 (x2 : Bool) : Le (X_patch_Asm_has_J1 x2) (F_patch_Asm_has_J1 x2) := by
  unfold X_patch_Asm_has_J1 F_patch_Asm_has_J1
  repeat' with_reducible first
    | exact Le.non _
    | exact Le.rf _
    | refine Le.grd ?_
    | refine Le.bind ?_ (fun _ => ?_)
    | refine Le.cond ?_ ?_
    | refine Le.map ?_
    | refine Le.elim (fun _ => ?_) (fun _ => ?_)
    | refine Le.loop (fun _ => ?_)
    | refine Le.loopF (fun _ => ?_)
theorem LE_patch_Asm_has (p1 : Int) (o0 : T_patch_Asm) : Le (X_patch_Asm_has p1 o0) (F_patch_Asm_has p1 o0) := by
  unfold X_patch_Asm_has F_patch_Asm_has
  repeat' with_reducible first
    | apply LE_patch_Asm_has_J1
    | exact Le.non _
    | exact Le.rf _
    | refine Le.grd ?_
    | refine Le.bind ?_ (fun _ => ?_)
    | refine Le.cond ?_ ?_
    | refine Le.map ?_
    | refine Le.elim (fun _ => ?_) (fun _ => ?_)
    | refine Le.loop (fun _ => ?_)
    | refine Le.loopF (fun _ => ?_)
theorem LE_patch_Asm_Bind (p1 : Int) (o0 : T_patch_Asm) : Le (X_patch_Asm_Bind p1 o0) (F_patch_Asm_Bind p1 o0) := by
  unfold X_patch_Asm_Bind F_patch_Asm_Bind
  repeat' with_reducible first
    | apply LE_patch_Asm_has
    | exact Le.non _
    | exact Le.rf _
    | refine Le.grd ?_
    | refine Le.bind ?_ (fun _ => ?_)
    | refine Le.cond ?_ ?_
    | refine Le.map ?_
    | refine Le.elim (fun _ => ?_) (fun _ => ?_)
    | refine Le.loop (fun _ => ?_)
    | refine Le.loopF (fun _ => ?_)
theorem LE_patch_Target_J1 (p0 : T_api_Ins) (x19 : Bool) : Le (X_patch_Target_J1 p0 x19) (F_patch_Target_J1 p0 x19) := by
  unfold X_patch_Target_J1 F_patch_Target_J1
  repeat' with_reducible first
    | exact Le.non _
    | exact Le.rf _
    | refine Le.grd ?_
    | refine Le.bind ?_ (fun _ => ?_)
    | refine Le.cond ?_ ?_
    | refine Le.map ?_
    | refine Le.elim (fun _ => ?_) (fun _ => ?_)
    | refine Le.loop (fun _ => ?_)
    | refine Le.loopF (fun _ => ?_)
theorem LE_patch_Target (p0 : T_api_Ins) : Le (X_patch_Target p0) (F_patch_Target p0) := by
  unfold X_patch_Target F_patch_Target
  repeat' with_reducible first
    | apply LE_patch_Target_J1
    | exact Le.non _
    | exact Le.rf _
    | refine Le.grd ?_
    | refine Le.bind ?_ (fun _ => ?_)
    | refine Le.cond ?_ ?_
    | refine Le.map ?_
    | refine Le.elim (fun _ => ?_) (fun _ => ?_)
    | refine Le.loop (fun _ => ?_)
    | refine Le.loopF (fun _ => ?_)
theorem LE_patch_Aim_J1 (p0 : T_api_Ins) (x8 : Int) (x9 : Int) : Le (X_patch_Aim_J1 p0 x8 x9) (F_patch_Aim_J1 p0 x8 x9) := by
  unfold X_patch_Aim_J1 F_patch_Aim_J1
  repeat' with_reducible first
    | exact Le.non _
    | exact Le.rf _
    | refine Le.grd ?_
    | refine Le.bind ?_ (fun _ => ?_)
    | refine Le.cond ?_ ?_
    | refine Le.map ?_
    | refine Le.elim (fun _ => ?_) (fun _ => ?_)
    | refine Le.loop (fun _ => ?_)
    | refine Le.loopF (fun _ => ?_)
theorem LE_patch_Aim (p0 : T_api_Ins) (p1 : Int) : Le (X_patch_Aim p0 p1) (F_patch_Aim p0 p1) := by
  unfold X_patch_Aim F_patch_Aim
  repeat' with_reducible first
    | apply LE_patch_Target
    | apply LE_patch_Aim_J1
    | exact Le.non _
    | exact Le.rf _
    | refine Le.grd ?_
    | refine Le.bind ?_ (fun _ => ?_)
    | refine Le.cond ?_ ?_
    | refine Le.map ?_
    | refine Le.elim (fun _ => ?_) (fun _ => ?_)
    | refine Le.loop (fun _ => ?_)
    | refine Le.loopF (fun _ => ?_)
theorem LE_patch_Asm_Done_J1 (x40 : Int) (x59 : (List T_api_Ins)) : Le (X_patch_Asm_Done_J1 x40 x59) (F_patch_Asm_Done_J1 x40 x59) := by
  unfold X_patch_Asm_Done_J1 F_patch_Asm_Done_J1
  repeat' with_reducible first
    | exact Le.non _
    | exact Le.rf _
    | refine Le.grd ?_
    | refine Le.bind ?_ (fun _ => ?_)
    | refine Le.cond ?_ ?_
    | refine Le.map ?_
    | refine Le.elim (fun _ => ?_) (fun _ => ?_)
    | refine Le.loop (fun _ => ?_)
    | refine Le.loopF (fun _ => ?_)
theorem LE_patch_Asm_Done_L2 (o0 : T_patch_Asm) (x40 : Int) (x41 : (List T_api_Ins)) : Le (X_patch_Asm_Done_L2 o0 x40 x41) (F_patch_Asm_Done_L2 o0 x40 x41) := by
  unfold X_patch_Asm_Done_L2 F_patch_Asm_Done_L2
  repeat' with_reducible first
    | apply LE_patch_Asm_Done_J1
    | apply LE_patch_Asm_has
    | apply LE_patch_Aim
    | exact Le.non _
    | exact Le.rf _
    | refine Le.grd ?_
    | refine Le.bind ?_ (fun _ => ?_)
    | refine Le.cond ?_ ?_
    | refine Le.map ?_
    | refine Le.elim (fun _ => ?_) (fun _ => ?_)
    | refine Le.loop (fun _ => ?_)
    | refine Le.loopF (fun _ => ?_)
theorem LE_patch_Asm_Done (o0 : T_patch_Asm) : Le (X_patch_Asm_Done o0) (F_patch_Asm_Done o0) := by
  unfold X_patch_Asm_Done F_patch_Asm_Done
  repeat' with_reducible first
    | apply LE_patch_Asm_Done_L2
    | exact Le.non _
    | exact Le.rf _
    | refine Le.grd ?_
    | refine Le.bind ?_ (fun _ => ?_)
    | refine Le.cond ?_ ?_
    | refine Le.map ?_
    | refine Le.elim (fun _ => ?_) (fun _ => ?_)
    | refine Le.loop (fun _ => ?_)
    | refine Le.loopF (fun _ => ?_)
theorem LE_patch_Asm_Len (o0 : T_patch_Asm) : Le (X_patch_Asm_Len o0) (F_patch_Asm_Len o0) := by
  unfold X_patch_Asm_Len F_patch_Asm_Len
  repeat' with_reducible first
    | exact Le.non _
    | exact Le.rf _
    | refine Le.grd ?_
    | refine Le.bind ?_ (fun _ => ?_)
    | refine Le.cond ?_ ?_
    | refine Le.map ?_
    | refine Le.elim (fun _ => ?_) (fun _ => ?_)
    | refine Le.loop (fun _ => ?_)
    | refine Le.loopF (fun _ => ?_)
theorem LE_retracelaw17_live_J1 (x18 : Bool) : Le (X_retracelaw17_live_J1 x18) (F_retracelaw17_live_J1 x18) := by
  unfold X_retracelaw17_live_J1 F_retracelaw17_live_J1
  repeat' with_reducible first
    | exact Le.non _
    | exact Le.rf _
    | refine Le.grd ?_
    | refine Le.bind ?_ (fun _ => ?_)
    | refine Le.cond ?_ ?_
    | refine Le.map ?_
    | refine Le.elim (fun _ => ?_) (fun _ => ?_)
    | refine Le.loop (fun _ => ?_)
    | refine Le.loopF (fun _ => ?_)
theorem LE_retracelaw17_live  : Le (X_retracelaw17_live ) (F_retracelaw17_live ) := by
  unfold X_retracelaw17_live F_retracelaw17_live
  repeat' with_reducible first
    | apply LE_patch_Asm_Label
    | apply LE_patch_Asm_Go
    | apply LE_patch_Asm_Put
    | apply LE_patch_Asm_Bind
    | apply LE_patch_Asm_Done
    | apply LE_patch_Asm_Len
    | apply LE_retracelaw17_live_J1
    | exact Le.non _
    | exact Le.rf _
    | refine Le.grd ?_
    | refine Le.bind ?_ (fun _ => ?_)
    | refine Le.cond ?_ ?_
    | refine Le.map ?_
    | refine Le.elim (fun _ => ?_) (fun _ => ?_)
    | refine Le.loop (fun _ => ?_)
    | refine Le.loopF (fun _ => ?_)
theorem ev_retracelaw17_live : F_retracelaw17_live = some true := LE_retracelaw17_live _ (by kernel_rfl)
end Go.Ab
