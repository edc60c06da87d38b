import Derived.Test.YtgihgmnmefbjbaaGO
import Derived.Test.YtgihgmnmefbjbaaAbEval
namespace Go.Ab
open Go.Proofs
set_option linter.unusedVariables false
noncomputable def X_offer_Of_1_J1 (x2 : Bool) : Option (Bool) :=
  some x2
noncomputable def X_offer_Of_1 (p0 : T_api_Alt) (o0_0 : Int) (o1_0 : Int) : Option (Bool) :=
  cond (p0.Kind == o0_0) (X_offer_Of_1_J1 (p0.Chan == o1_0)) (X_offer_Of_1_J1 false)
noncomputable def X_slices_IndexFunc_retrace_api_Alt_retrace_api_Alt_L1 (p0 : (List T_api_Alt)) (o0_0 : Int) (o1_0 : Int) (x20 : Int) : Option ((Int) ⊕ (Int)) :=
  cond (decide (x20 < ((p0).length : Int))) ((lAt p0 x20).bind fun y32 => (X_offer_Of_1 y32 o0_0 o1_0).bind fun y33 => cond y33 ((some x20).map Sum.inr) (some (.inl (w64 (x20 + 1))))) ((some (-1)).map Sum.inr)
noncomputable def X_slices_IndexFunc_retrace_api_Alt_retrace_api_Alt (p0 : (List T_api_Alt)) (o0_0 : Int) (o1_0 : Int) : Option (Int) :=
  Loopx (fun s : (Int) => X_slices_IndexFunc_retrace_api_Alt_retrace_api_Alt_L1 p0 o0_0 o1_0 s) 0
noncomputable def X_offer_Of_J1 (p0 : T_api_Proc) (p1 : Int) (p2 : Int) (x8 : Bool) : Option (Int × Bool) :=
  cond x8 (some ((-1), true)) (cond (p0.Mode != 3) (some (0, false)) ((X_slices_IndexFunc_retrace_api_Alt_retrace_api_Alt p0.Alts p1 p2).bind fun y13 => some ((if 0 > y13 then 0 else y13), (decide (0 ≤ y13)))))
noncomputable def X_offer_Of (p0 : T_api_Proc) (p1 : Int) (p2 : Int) : Option (Int × Bool) :=
  cond (!((p1 == 2) || ((p1 == 1) || false))) (some (0, false)) (cond (p0.Mode == (cond (p1 == 2) 1 (cond (p1 == 1) 2 0))) (X_offer_Of_J1 p0 p1 p2 (p0.Chan == p2)) (X_offer_Of_J1 p0 p1 p2 false))
noncomputable def X_offer_Find_J1 (x54 : Int) (x79 : Int) (x80 : Int) : Option ((Int × Int × Int) ⊕ (Int × Int)) :=
  some (.inl (x79, x80, (w64 (x54 + 1))))
noncomputable def X_offer_Find_J2 (x52 : Int) (x53 : Int) (x54 : Int) (y84 : Int × Bool) (x96 : Bool) : Option ((Int × Int × Int) ⊕ (Int × Int)) :=
  cond x96 (X_offer_Find_J1 x54 x52 x53) (X_offer_Find_J1 x54 x54 y84.1)
noncomputable def X_offer_Find_L3 (p0 : (List T_api_Proc)) (p1 : Int) (p2 : Int) (x52 : Int) (x53 : Int) (x54 : Int) : Option ((Int × Int × Int) ⊕ (Int × Int)) :=
  cond (decide (x54 < ((p0).length : Int))) ((lAt p0 x54).bind fun y82 => (X_offer_Of y82 p1 p2).bind fun y84 => cond (!y84.2) (X_offer_Find_J2 x52 x53 x54 y84 (!y84.2)) (cond (decide (0 ≤ x52)) ((lAt p0 x52).bind fun y100 => X_offer_Find_J2 x52 x53 x54 y84 (decide (y100.Since ≤ y82.Since))) (X_offer_Find_J2 x52 x53 x54 y84 false))) ((some (x52, x53)).map Sum.inr)
noncomputable def X_offer_Find (p0 : (List T_api_Proc)) (p1 : Int) (p2 : Int) : Option (Int × Int) :=
  Loopx (fun s : (Int × Int × Int) => X_offer_Find_L3 p0 p1 p2 s.1 s.2.1 s.2.2) ((-1), (-1), 0)
noncomputable def X_offer_alt_J1 (p0 : T_api_Proc) (p1 : Int) (x9 : Bool) : Option (T_api_Alt × Bool) :=
  cond x9 (some ((⟨0, 0, 0, 0, 0⟩ : T_api_Alt), false)) ((lAt p0.Alts p1).bind fun y12 => some (y12, true))
noncomputable def X_offer_alt (p0 : T_api_Proc) (p1 : Int) : Option (T_api_Alt × Bool) :=
  cond (p0.Mode != 3) (X_offer_alt_J1 p0 p1 true) (cond (decide (p1 < 0)) (X_offer_alt_J1 p0 p1 true) (X_offer_alt_J1 p0 p1 (decide (((p0.Alts).length : Int) ≤ p1))))
noncomputable def X_offer_Value_J2 (y15 : T_api_Alt × Bool) (x17 : Bool) : Option ((Int) ⊕ (Int)) :=
  cond x17 (some (.inr y15.1.Val)) (some (.inr 0))
noncomputable def X_offer_Value_J1 (p0_0 : Int) (p0_1 : Int) (p0_3 : Int) (p0_4 : Int) (p0_5 : Int) (p0_6 : Int) (p0_7 : Int) (p0_8 : Int) (p0_9 : Int) (p0_10 : (List T_api_Alt)) (p1 : Int) (o0 : (List Int)) (x6 : Bool) : Option ((Int) ⊕ (Int)) :=
  cond x6 (some (.inl p0_6)) ((X_offer_alt (⟨p0_0, p0_1, o0, p0_3, p0_4, p0_5, p0_6, p0_7, p0_8, p0_9, p0_10⟩ : T_api_Proc) p1).bind fun y15 => cond y15.2 (X_offer_Value_J2 y15 (y15.1.Kind == 2)) (X_offer_Value_J2 y15 false))
noncomputable def X_offer_Value (p0_0 : Int) (p0_1 : Int) (p0_3 : Int) (p0_4 : Int) (p0_5 : Int) (p0_6 : Int) (p0_7 : Int) (p0_8 : Int) (p0_9 : Int) (p0_10 : (List T_api_Alt)) (p1 : Int) (o0 : (List Int)) : Option ((Int) ⊕ (Int)) :=
  cond (p0_4 == 1) (X_offer_Value_J1 p0_0 p0_1 p0_3 p0_4 p0_5 p0_6 p0_7 p0_8 p0_9 p0_10 p1 o0 (p1 == (-1))) (X_offer_Value_J1 p0_0 p0_1 p0_3 p0_4 p0_5 p0_6 p0_7 p0_8 p0_9 p0_10 p1 o0 false)
noncomputable def X_retracelaw25_live_J1 (x14 : Bool) : Option (Bool) :=
  some x14
noncomputable def X_retracelaw25_live  : Option (Bool) :=
  (X_offer_Find ([(⟨0, 6, [0], 0, 2, 0, 0, 0, 0, 5, ([] : (List T_api_Alt))⟩ : T_api_Proc), (⟨0, 6, [0], 0, 2, 0, 0, 0, 0, 3, ([] : (List T_api_Alt))⟩ : T_api_Proc)]) 1 0).bind fun y2 => (lAt ([(⟨0, 6, [0], 0, 2, 0, 0, 0, 0, 5, ([] : (List T_api_Alt))⟩ : T_api_Proc), (⟨0, 6, [0], 0, 2, 0, 0, 0, 0, 3, ([] : (List T_api_Alt))⟩ : T_api_Proc)]) 0).bind fun y5 => (X_offer_Of y5 1 0).bind fun y6 => cond (y2.1 == 1) (cond (y2.2 == (-1)) (cond (y6.1 == (-1)) (cond y6.2 ((X_offer_Value 0 6 0 1 0 4 0 0 0 ([] : List T_api_Alt) (-1) ([0])).bind fun y19 => (Sum.elim (fun y20 => X_retracelaw25_live_J1 (y20 == 4)) (fun y21 => X_retracelaw25_live_J1 (y21 == 4))) y19) (X_retracelaw25_live_J1 false)) (X_retracelaw25_live_J1 false)) (X_retracelaw25_live_J1 false)) (X_retracelaw25_live_J1 false)
theorem LE_offer_Of_1_J1 (x2 : Bool) : Le (X_offer_Of_1_J1 x2) (F_offer_Of_1_J1 x2) := by
  unfold X_offer_Of_1_J1 F_offer_Of_1_J1
  repeat' with_reducible first
    | exact Le.non _
    | exact Le.rf _
    | refine Le.grd ?_
    | refine Le.bind ?_ (fun _ => ?_)
    | refine Le.cond ?_ ?_
    | refine Le.map ?_
    | refine Le.elim (fun _ => ?_) (fun _ => ?_)
    | refine Le.loop (fun _ => ?_)
    | refine Le.loopF (fun _ => ?_)
theorem LE_offer_Of_1 (p0 : T_api_Alt) (o0_0 : Int) (o1_0 : Int) : Le (X_offer_Of_1 p0 o0_0 o1_0) (F_offer_Of_1 p0 o0_0 o1_0) := by
  unfold X_offer_Of_1 F_offer_Of_1
  repeat' with_reducible first
    | apply LE_offer_Of_1_J1
    | exact Le.non _
    | exact Le.rf _
    | refine Le.grd ?_
    | refine Le.bind ?_ (fun _ => ?_)
    | refine Le.cond ?_ ?_
    | refine Le.map ?_
    | refine Le.elim (fun _ => ?_) (fun _ => ?_)
    | refine Le.loop (fun _ => ?_)
    | refine Le.loopF (fun _ => ?_)
theorem LE_slices_IndexFunc_retrace_api_Alt_retrace_api_Alt_L1 (p0 : (List T_api_Alt)) (o0_0 : Int) (o1_0 : Int) (x20 : Int) : Le (X_slices_IndexFunc_retrace_api_Alt_retrace_api_Alt_L1 p0 o0_0 o1_0 x20) (F_slices_IndexFunc_retrace_api_Alt_retrace_api_Alt_L1 p0 o0_0 o1_0 x20) := by
  unfold X_slices_IndexFunc_retrace_api_Alt_retrace_api_Alt_L1 F_slices_IndexFunc_retrace_api_Alt_retrace_api_Alt_L1
  repeat' with_reducible first
    | apply LE_offer_Of_1
    | exact Le.non _
    | exact Le.rf _
    | refine Le.grd ?_
    | refine Le.bind ?_ (fun _ => ?_)
    | refine Le.cond ?_ ?_
    | refine Le.map ?_
    | refine Le.elim (fun _ => ?_) (fun _ => ?_)
    | refine Le.loop (fun _ => ?_)
    | refine Le.loopF (fun _ => ?_)
theorem LE_slices_IndexFunc_retrace_api_Alt_retrace_api_Alt (p0 : (List T_api_Alt)) (o0_0 : Int) (o1_0 : Int) : Le (X_slices_IndexFunc_retrace_api_Alt_retrace_api_Alt p0 o0_0 o1_0) (F_slices_IndexFunc_retrace_api_Alt_retrace_api_Alt p0 o0_0 o1_0) := by
  unfold X_slices_IndexFunc_retrace_api_Alt_retrace_api_Alt F_slices_IndexFunc_retrace_api_Alt_retrace_api_Alt
  repeat' with_reducible first
    | apply LE_slices_IndexFunc_retrace_api_Alt_retrace_api_Alt_L1
    | exact Le.non _
    | exact Le.rf _
    | refine Le.grd ?_
    | refine Le.bind ?_ (fun _ => ?_)
    | refine Le.cond ?_ ?_
    | refine Le.map ?_
    | refine Le.elim (fun _ => ?_) (fun _ => ?_)
    | refine Le.loop (fun _ => ?_)
    | refine Le.loopF (fun _ => ?_)
theorem LE_offer_Of_J1 (p0 : T_api_Proc) (p1 : Int) (p2 : Int) (x8 : Bool) : Le (X_offer_Of_J1 p0 p1 p2 x8) (F_offer_Of_J1 p0 p1 p2 x8) := by
  unfold X_offer_Of_J1 F_offer_Of_J1
  repeat' with_reducible first
    | apply LE_slices_IndexFunc_retrace_api_Alt_retrace_api_Alt
    | exact Le.non _
    | exact Le.rf _
    | refine Le.grd ?_
    | refine Le.bind ?_ (fun _ => ?_)
    | refine Le.cond ?_ ?_
    | refine Le.map ?_
    | refine Le.elim (fun _ => ?_) (fun _ => ?_)
    | refine Le.loop (fun _ => ?_)
    | refine Le.loopF (fun _ => ?_)
theorem LE_offer_Of (p0 : T_api_Proc) (p1 : Int) (p2 : Int) : Le (X_offer_Of p0 p1 p2) (F_offer_Of p0 p1 p2) := by
  unfold X_offer_Of F_offer_Of
  repeat' with_reducible first
    | apply LE_offer_Of_J1
    | exact Le.non _
    | exact Le.rf _
    | refine Le.grd ?_
    | refine Le.bind ?_ (fun _ => ?_)
    | refine Le.cond ?_ ?_
    | refine Le.map ?_
    | refine Le.elim (fun _ => ?_) (fun _ => ?_)
    | refine Le.loop (fun _ => ?_)
    | refine Le.loopF (fun _ => ?_)
theorem LE_offer_Find_J1 (x54 : Int) (x79 : Int) (x80 : Int) : Le (X_offer_Find_J1 x54 x79 x80) (F_offer_Find_J1 x54 x79 x80) := by
  unfold X_offer_Find_J1 F_offer_Find_J1
  repeat' with_reducible first
    | exact Le.non _
    | exact Le.rf _
    | refine Le.grd ?_
    | refine Le.bind ?_ (fun _ => ?_)
    | refine Le.cond ?_ ?_
    | refine Le.map ?_
    | refine Le.elim (fun _ => ?_) (fun _ => ?_)
    | refine Le.loop (fun _ => ?_)
    | refine Le.loopF (fun _ => ?_)
theorem LE_offer_Find_J2 (x52 : Int) (x53 : Int) (x54 : Int) (y84 : Int × Bool) (x96 : Bool) : Le (X_offer_Find_J2 x52 x53 x54 y84 x96) (F_offer_Find_J2 x52 x53 x54 y84 x96) := by
  unfold X_offer_Find_J2 F_offer_Find_J2
  repeat' with_reducible first
    | apply LE_offer_Find_J1
    | exact Le.non _
    | exact Le.rf _
    | refine Le.grd ?_
    | refine Le.bind ?_ (fun _ => ?_)
    | refine Le.cond ?_ ?_
    | refine Le.map ?_
    | refine Le.elim (fun _ => ?_) (fun _ => ?_)
    | refine Le.loop (fun _ => ?_)
    | refine Le.loopF (fun _ => ?_)
theorem LE_offer_Find_L3 (p0 : (List T_api_Proc)) (p1 : Int) (p2 : Int) (x52 : Int) (x53 : Int) (x54 : Int) : Le (X_offer_Find_L3 p0 p1 p2 x52 x53 x54) (F_offer_Find_L3 p0 p1 p2 x52 x53 x54) := by
  unfold X_offer_Find_L3 F_offer_Find_L3
  repeat' with_reducible first
    | apply LE_offer_Of
    | apply LE_offer_Find_J2
    | exact Le.non _
    | exact Le.rf _
    | refine Le.grd ?_
    | refine Le.bind ?_ (fun _ => ?_)
    | refine Le.cond ?_ ?_
    | refine Le.map ?_
    | refine Le.elim (fun _ => ?_) (fun _ => ?_)
    | refine Le.loop (fun _ => ?_)
    | refine Le.loopF (fun _ => ?_)
theorem LE_offer_Find (p0 : (List T_api_Proc)) (p1 : Int) (p2 : Int) : Le (X_offer_Find p0 p1 p2) (F_offer_Find p0 p1 p2) := by
  unfold X_offer_Find F_offer_Find
  repeat' with_reducible first
    | apply LE_offer_Find_L3
    | exact Le.non _
    | exact Le.rf _
    | refine Le.grd ?_
    | refine Le.bind ?_ (fun _ => ?_)
    | refine Le.cond ?_ ?_
    | refine Le.map ?_
    | refine Le.elim (fun _ => ?_) (fun _ => ?_)
    | refine Le.loop (fun _ => ?_)
    | refine Le.loopF (fun _ => ?_)
theorem LE_offer_alt_J1 (p0 : T_api_Proc) (p1 : Int) (x9 : Bool) : Le (X_offer_alt_J1 p0 p1 x9) (F_offer_alt_J1 p0 p1 x9) := by
  unfold X_offer_alt_J1 F_offer_alt_J1
  repeat' with_reducible first
    | exact Le.non _
    | exact Le.rf _
    | refine Le.grd ?_
    | refine Le.bind ?_ (fun _ => ?_)
    | refine Le.cond ?_ ?_
    | refine Le.map ?_
    | refine Le.elim (fun _ => ?_) (fun _ => ?_)
    | refine Le.loop (fun _ => ?_)
    | refine Le.loopF (fun _ => ?_)
theorem LE_offer_alt (p0 : T_api_Proc) (p1 : Int) : Le (X_offer_alt p0 p1) (F_offer_alt p0 p1) := by
  unfold X_offer_alt F_offer_alt
  repeat' with_reducible first
    | apply LE_offer_alt_J1
    | exact Le.non _
    | exact Le.rf _
    | refine Le.grd ?_
    | refine Le.bind ?_ (fun _ => ?_)
    | refine Le.cond ?_ ?_
    | refine Le.map ?_
    | refine Le.elim (fun _ => ?_) (fun _ => ?_)
    | refine Le.loop (fun _ => ?_)
    | refine Le.loopF (fun _ => ?_)
theorem LE_offer_Value_J2 (y15 : T_api_Alt × Bool) (x17 : Bool) : Le (X_offer_Value_J2 y15 x17) (F_offer_Value_J2 y15 x17) := by
  unfold X_offer_Value_J2 F_offer_Value_J2
  repeat' with_reducible first
    | exact Le.non _
    | exact Le.rf _
    | refine Le.grd ?_
    | refine Le.bind ?_ (fun _ => ?_)
    | refine Le.cond ?_ ?_
    | refine Le.map ?_
    | refine Le.elim (fun _ => ?_) (fun _ => ?_)
    | refine Le.loop (fun _ => ?_)
    | refine Le.loopF (fun _ => ?_)
theorem LE_offer_Value_J1 (p0_0 : Int) (p0_1 : Int) (p0_3 : Int) (p0_4 : Int) (p0_5 : Int) (p0_6 : Int) (p0_7 : Int) (p0_8 : Int) (p0_9 : Int) (p0_10 : (List T_api_Alt)) (p1 : Int) (o0 : (List Int)) (x6 : Bool) : Le (X_offer_Value_J1 p0_0 p0_1 p0_3 p0_4 p0_5 p0_6 p0_7 p0_8 p0_9 p0_10 p1 o0 x6) (F_offer_Value_J1 p0_0 p0_1 p0_3 p0_4 p0_5 p0_6 p0_7 p0_8 p0_9 p0_10 p1 o0 x6) := by
  unfold X_offer_Value_J1 F_offer_Value_J1
  repeat' with_reducible first
    | apply LE_offer_alt
    | apply LE_offer_Value_J2
    | exact Le.non _
    | exact Le.rf _
    | refine Le.grd ?_
    | refine Le.bind ?_ (fun _ => ?_)
    | refine Le.cond ?_ ?_
    | refine Le.map ?_
    | refine Le.elim (fun _ => ?_) (fun _ => ?_)
    | refine Le.loop (fun _ => ?_)
    | refine Le.loopF (fun _ => ?_)
theorem LE_offer_Value (p0_0 : Int) (p0_1 : Int) (p0_3 : Int) (p0_4 : Int) (p0_5 : Int) (p0_6 : Int) (p0_7 : Int) (p0_8 : Int) (p0_9 : Int) (p0_10 : (List T_api_Alt)) (p1 : Int) (o0 : (List Int)) : Le (X_offer_Value p0_0 p0_1 p0_3 p0_4 p0_5 p0_6 p0_7 p0_8 p0_9 p0_10 p1 o0) (F_offer_Value p0_0 p0_1 p0_3 p0_4 p0_5 p0_6 p0_7 p0_8 p0_9 p0_10 p1 o0) := by
  unfold X_offer_Value F_offer_Value
  repeat' with_reducible first
    | apply LE_offer_Value_J1
    | exact Le.non _
    | exact Le.rf _
    | refine Le.grd ?_
    | refine Le.bind ?_ (fun _ => ?_)
    | refine Le.cond ?_ ?_
    | refine Le.map ?_
    | refine Le.elim (fun _ => ?_) (fun _ => ?_)
    | refine Le.loop (fun _ => ?_)
    | refine Le.loopF (fun _ => ?_)
theorem LE_retracelaw25_live_J1 (x14 : Bool) : Le (X_retracelaw25_live_J1 x14) (F_retracelaw25_live_J1 x14) := by
  unfold X_retracelaw25_live_J1 F_retracelaw25_live_J1
  repeat' with_reducible first
    | exact Le.non _
    | exact Le.rf _
    | refine Le.grd ?_
    | refine Le.bind ?_ (fun _ => ?_)
    | refine Le.cond ?_ ?_
    | refine Le.map ?_
    | refine Le.elim (fun _ => ?_) (fun _ => ?_)
    | refine Le.loop (fun _ => ?_)
    | refine Le.loopF (fun _ => ?_)
theorem LE_retracelaw25_live  : Le (X_retracelaw25_live ) (F_retracelaw25_live ) := by
  unfold X_retracelaw25_live F_retracelaw25_live
  repeat' with_reducible first
    | apply LE_offer_Find
    | apply LE_offer_Of
    | apply LE_offer_Value
    | apply LE_retracelaw25_live_J1
    | exact Le.non _
    | exact Le.rf _
    | refine Le.grd ?_
    | refine Le.bind ?_ (fun _ => ?_)
    | refine Le.cond ?_ ?_
    | refine Le.map ?_
    | refine Le.elim (fun _ => ?_) (fun _ => ?_)
    | refine Le.loop (fun _ => ?_)
    | refine Le.loopF (fun _ => ?_)
theorem ev_retracelaw25_live : F_retracelaw25_live = some true := LE_retracelaw25_live _ (by kernel_rfl)
end Go.Ab
