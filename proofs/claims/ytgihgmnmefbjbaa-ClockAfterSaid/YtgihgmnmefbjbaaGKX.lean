import Derived.Test.YtgihgmnmefbjbaaGK
import Derived.Test.YtgihgmnmefbjbaaAbEval
namespace Go.Ab
open Go.Proofs
set_option linter.unusedVariables false
noncomputable def X_clock_Due_J1 (x36 : Int) (x51 : Int) (x52 : Bool) : Option ((Int × Bool × Int) ⊕ (Int × Bool)) :=
  some (.inl (x51, x52, (w64 (x36 + 1))))
noncomputable def X_clock_Due_J2 (x34 : Int) (x35 : Bool) (x36 : Int) (y54 : T_api_Alt) (x58 : Bool) : Option ((Int × Bool × Int) ⊕ (Int × Bool)) :=
  cond x58 (X_clock_Due_J1 x36 y54.Val true) (X_clock_Due_J1 x36 x34 x35)
noncomputable def X_clock_Due_L3 (p0 : T_api_Proc) (x34 : Int) (x35 : Bool) (x36 : Int) : Option ((Int × Bool × Int) ⊕ (Int × Bool)) :=
  cond (decide (x36 < ((p0.Alts).length : Int))) ((lAt p0.Alts x36).bind fun y54 => cond (p0.Mode == 3) (cond (y54.Kind == 3) (cond (!x35) (X_clock_Due_J2 x34 x35 x36 y54 true) (X_clock_Due_J2 x34 x35 x36 y54 (decide (y54.Val < x34)))) (X_clock_Due_J2 x34 x35 x36 y54 false)) (X_clock_Due_J2 x34 x35 x36 y54 false)) ((some (x34, x35)).map Sum.inr)
noncomputable def X_clock_Due (p0 : T_api_Proc) : Option (Int × Bool) :=
  cond (p0.Mode == 4) (some (p0.Until, true)) (Loopx (fun s : (Int × Bool × Int) => X_clock_Due_L3 p0 s.1 s.2.1 s.2.2) (0, false, 0))
noncomputable def X_clock_Later_J1 (p0 : Int) (p1 : Int) (x9 : Bool) : Option (Int) :=
  cond x9 (some p0) (some (w64 (p0 + (if (w64 (1099511627776 - p0)) < p1 then (w64 (1099511627776 - p0)) else p1))))
noncomputable def X_clock_Later (p0 : Int) (p1 : Int) : Option (Int) :=
  cond (decide (p0 < 0)) (X_clock_Later_J1 p0 p1 true) (cond (decide (1099511627776 < p0)) (X_clock_Later_J1 p0 p1 true) (X_clock_Later_J1 p0 p1 (decide (p1 < 1))))
noncomputable def X_clock_Waits_1 (p0 : T_api_Proc) : Option (Bool) :=
  (X_clock_Due p0).bind fun y2 => some y2.2
noncomputable def X_slices_IndexFunc_retrace_api_Proc_retrace_api_Proc_L1 (p0 : (List T_api_Proc)) (x20 : Int) : Option ((Int) ⊕ (Int)) :=
  cond (decide (x20 < ((p0).length : Int))) ((lAt p0 x20).bind fun y32 => (X_clock_Waits_1 y32).bind fun y33 => cond y33 ((some x20).map Sum.inr) (some (.inl (w64 (x20 + 1))))) ((some (-1)).map Sum.inr)
noncomputable def X_slices_IndexFunc_retrace_api_Proc_retrace_api_Proc (p0 : (List T_api_Proc)) : Option (Int) :=
  Loopx (fun s : (Int) => X_slices_IndexFunc_retrace_api_Proc_retrace_api_Proc_L1 p0 s) 0
noncomputable def X_slices_ContainsFunc_retrace_api_Proc_retrace_api_Proc (p0 : (List T_api_Proc)) : Option (Bool) :=
  (X_slices_IndexFunc_retrace_api_Proc_retrace_api_Proc p0).bind fun y2 => some (decide (0 ≤ y2))
noncomputable def X_clock_Waits (o0 : (List T_api_Proc)) : Option (Bool) :=
  (X_slices_ContainsFunc_retrace_api_Proc_retrace_api_Proc o0).bind fun y2 => some y2
noncomputable def X_clock_Waits_v2 (p0 : (List T_api_Proc)) : Option (Bool) :=
  (X_slices_ContainsFunc_retrace_api_Proc_retrace_api_Proc p0).bind fun y2 => some y2
noncomputable def X_retracelaw26_live_J1 (x12 : Bool) : Option (Bool) :=
  some x12
noncomputable def X_retracelaw26_live  : Option (Bool) :=
  (X_clock_Due (⟨0, 0, ([] : (List Int)), 0, 4, 0, 0, 0, 4, 0, ([] : (List T_api_Alt))⟩ : T_api_Proc)).bind fun y2 => (X_clock_Later 5 (-1)).bind fun y13 => cond (y13 == 5) ((X_clock_Later 5 2).bind fun y15 => cond (y15 == 7) (cond (y2.1 == 4) (cond y2.2 ((X_clock_Waits ([(⟨0, 0, ([] : (List Int)), 0, 4, 0, 0, 0, 0, 0, ([] : (List T_api_Alt))⟩ : T_api_Proc)])).bind fun y19 => cond y19 ((X_clock_Waits_v2 ([] : List T_api_Proc)).bind fun y21 => X_retracelaw26_live_J1 (!y21)) (X_retracelaw26_live_J1 false)) (X_retracelaw26_live_J1 false)) (X_retracelaw26_live_J1 false)) (X_retracelaw26_live_J1 false)) (X_retracelaw26_live_J1 false)
theorem LE_clock_Due_J1 (x36 : Int) (x51 : Int) (x52 : Bool) : Le (X_clock_Due_J1 x36 x51 x52) (F_clock_Due_J1 x36 x51 x52) := by
  unfold X_clock_Due_J1 F_clock_Due_J1
  repeat' with_reducible first
    | exact Le.non _
    | exact Le.rf _
    | refine Le.grd ?_
    | refine Le.bind ?_ (fun _ => ?_)
    | refine Le.cond ?_ ?_
    | refine Le.map ?_
    | refine Le.elim (fun _ => ?_) (fun _ => ?_)
    | refine Le.loop (fun _ => ?_)
    | refine Le.loopF (fun _ => ?_)
theorem LE_clock_Due_J2 (x34 : Int) (x35 : Bool) (x36 : Int) (y54 : T_api_Alt) (x58 : Bool) : Le (X_clock_Due_J2 x34 x35 x36 y54 x58) (F_clock_Due_J2 x34 x35 x36 y54 x58) := by
  unfold X_clock_Due_J2 F_clock_Due_J2
  repeat' with_reducible first
    | apply LE_clock_Due_J1
    | exact Le.non _
    | exact Le.rf _
    | refine Le.grd ?_
    | refine Le.bind ?_ (fun _ => ?_)
    | refine Le.cond ?_ ?_
    | refine Le.map ?_
    | refine Le.elim (fun _ => ?_) (fun _ => ?_)
    | refine Le.loop (fun _ => ?_)
    | refine Le.loopF (fun _ => ?_)
theorem LE_clock_Due_L3 (p0 : T_api_Proc) (x34 : Int) (x35 : Bool) (x36 : Int) : Le (X_clock_Due_L3 p0 x34 x35 x36) (F_clock_Due_L3 p0 x34 x35 x36) := by
  unfold X_clock_Due_L3 F_clock_Due_L3
  repeat' with_reducible first
    | apply LE_clock_Due_J2
    | exact Le.non _
    | exact Le.rf _
    | refine Le.grd ?_
    | refine Le.bind ?_ (fun _ => ?_)
    | refine Le.cond ?_ ?_
    | refine Le.map ?_
    | refine Le.elim (fun _ => ?_) (fun _ => ?_)
    | refine Le.loop (fun _ => ?_)
    | refine Le.loopF (fun _ => ?_)
theorem LE_clock_Due (p0 : T_api_Proc) : Le (X_clock_Due p0) (F_clock_Due p0) := by
  unfold X_clock_Due F_clock_Due
  repeat' with_reducible first
    | apply LE_clock_Due_L3
    | exact Le.non _
    | exact Le.rf _
    | refine Le.grd ?_
    | refine Le.bind ?_ (fun _ => ?_)
    | refine Le.cond ?_ ?_
    | refine Le.map ?_
    | refine Le.elim (fun _ => ?_) (fun _ => ?_)
    | refine Le.loop (fun _ => ?_)
    | refine Le.loopF (fun _ => ?_)
theorem LE_clock_Later_J1 (p0 : Int) (p1 : Int) (x9 : Bool) : Le (X_clock_Later_J1 p0 p1 x9) (F_clock_Later_J1 p0 p1 x9) := by
  unfold X_clock_Later_J1 F_clock_Later_J1
  repeat' with_reducible first
    | exact Le.non _
    | exact Le.rf _
    | refine Le.grd ?_
    | refine Le.bind ?_ (fun _ => ?_)
    | refine Le.cond ?_ ?_
    | refine Le.map ?_
    | refine Le.elim (fun _ => ?_) (fun _ => ?_)
    | refine Le.loop (fun _ => ?_)
    | refine Le.loopF (fun _ => ?_)
theorem LE_clock_Later (p0 : Int) (p1 : Int) : Le (X_clock_Later p0 p1) (F_clock_Later p0 p1) := by
  unfold X_clock_Later F_clock_Later
  repeat' with_reducible first
    | apply LE_clock_Later_J1
    | exact Le.non _
    | exact Le.rf _
    | refine Le.grd ?_
    | refine Le.bind ?_ (fun _ => ?_)
    | refine Le.cond ?_ ?_
    | refine Le.map ?_
    | refine Le.elim (fun _ => ?_) (fun _ => ?_)
    | refine Le.loop (fun _ => ?_)
    | refine Le.loopF (fun _ => ?_)
theorem LE_clock_Waits_1 (p0 : T_api_Proc) : Le (X_clock_Waits_1 p0) (F_clock_Waits_1 p0) := by
  unfold X_clock_Waits_1 F_clock_Waits_1
  repeat' with_reducible first
    | apply LE_clock_Due
    | exact Le.non _
    | exact Le.rf _
    | refine Le.grd ?_
    | refine Le.bind ?_ (fun _ => ?_)
    | refine Le.cond ?_ ?_
    | refine Le.map ?_
    | refine Le.elim (fun _ => ?_) (fun _ => ?_)
    | refine Le.loop (fun _ => ?_)
    | refine Le.loopF (fun _ => ?_)
theorem LE_slices_IndexFunc_retrace_api_Proc_retrace_api_Proc_L1 (p0 : (List T_api_Proc)) (x20 : Int) : Le (X_slices_IndexFunc_retrace_api_Proc_retrace_api_Proc_L1 p0 x20) (F_slices_IndexFunc_retrace_api_Proc_retrace_api_Proc_L1 p0 x20) := by
  unfold X_slices_IndexFunc_retrace_api_Proc_retrace_api_Proc_L1 F_slices_IndexFunc_retrace_api_Proc_retrace_api_Proc_L1
  repeat' with_reducible first
    | apply LE_clock_Waits_1
    | exact Le.non _
    | exact Le.rf _
    | refine Le.grd ?_
    | refine Le.bind ?_ (fun _ => ?_)
    | refine Le.cond ?_ ?_
    | refine Le.map ?_
    | refine Le.elim (fun _ => ?_) (fun _ => ?_)
    | refine Le.loop (fun _ => ?_)
    | refine Le.loopF (fun _ => ?_)
theorem LE_slices_IndexFunc_retrace_api_Proc_retrace_api_Proc (p0 : (List T_api_Proc)) : Le (X_slices_IndexFunc_retrace_api_Proc_retrace_api_Proc p0) (F_slices_IndexFunc_retrace_api_Proc_retrace_api_Proc p0) := by
  unfold X_slices_IndexFunc_retrace_api_Proc_retrace_api_Proc F_slices_IndexFunc_retrace_api_Proc_retrace_api_Proc
  repeat' with_reducible first
    | apply LE_slices_IndexFunc_retrace_api_Proc_retrace_api_Proc_L1
    | exact Le.non _
    | exact Le.rf _
    | refine Le.grd ?_
    | refine Le.bind ?_ (fun _ => ?_)
    | refine Le.cond ?_ ?_
    | refine Le.map ?_
    | refine Le.elim (fun _ => ?_) (fun _ => ?_)
    | refine Le.loop (fun _ => ?_)
    | refine Le.loopF (fun _ => ?_)
theorem LE_slices_ContainsFunc_retrace_api_Proc_retrace_api_Proc (p0 : (List T_api_Proc)) : Le (X_slices_ContainsFunc_retrace_api_Proc_retrace_api_Proc p0) (F_slices_ContainsFunc_retrace_api_Proc_retrace_api_Proc p0) := by
  unfold X_slices_ContainsFunc_retrace_api_Proc_retrace_api_Proc F_slices_ContainsFunc_retrace_api_Proc_retrace_api_Proc
  repeat' with_reducible first
    | apply LE_slices_IndexFunc_retrace_api_Proc_retrace_api_Proc
    | exact Le.non _
    | exact Le.rf _
    | refine Le.grd ?_
    | refine Le.bind ?_ (fun _ => ?_)
    | refine Le.cond ?_ ?_
    | refine Le.map ?_
    | refine Le.elim (fun _ => ?_) (fun _ => ?_)
    | refine Le.loop (fun _ => ?_)
    | refine Le.loopF (fun _ => ?_)
theorem LE_clock_Waits (o0 : (List T_api_Proc)) : Le (X_clock_Waits o0) (F_clock_Waits o0) := by
  unfold X_clock_Waits F_clock_Waits
  repeat' with_reducible first
    | apply LE_slices_ContainsFunc_retrace_api_Proc_retrace_api_Proc
    | exact Le.non _
    | exact Le.rf _
    | refine Le.grd ?_
    | refine Le.bind ?_ (fun _ => ?_)
    | refine Le.cond ?_ ?_
    | refine Le.map ?_
    | refine Le.elim (fun _ => ?_) (fun _ => ?_)
    | refine Le.loop (fun _ => ?_)
    | refine Le.loopF (fun _ => ?_)
theorem LE_clock_Waits_v2 (p0 : (List T_api_Proc)) : Le (X_clock_Waits_v2 p0) (F_clock_Waits_v2 p0) := by
  unfold X_clock_Waits_v2 F_clock_Waits_v2
  repeat' with_reducible first
    | apply LE_slices_ContainsFunc_retrace_api_Proc_retrace_api_Proc
    | exact Le.non _
    | exact Le.rf _
    | refine Le.grd ?_
    | refine Le.bind ?_ (fun _ => ?_)
    | refine Le.cond ?_ ?_
    | refine Le.map ?_
    | refine Le.elim (fun _ => ?_) (fun _ => ?_)
    | refine Le.loop (fun _ => ?_)
    | refine Le.loopF (fun _ => ?_)
theorem LE_retracelaw26_live_J1 (x12 : Bool) : Le (X_retracelaw26_live_J1 x12) (F_retracelaw26_live_J1 x12) := by
  unfold X_retracelaw26_live_J1 F_retracelaw26_live_J1
  repeat' with_reducible first
    | exact Le.non _
    | exact Le.rf _
    | refine Le.grd ?_
    | refine Le.bind ?_ (fun _ => ?_)
    | refine Le.cond ?_ ?_
    | refine Le.map ?_
    | refine Le.elim (fun _ => ?_) (fun _ => ?_)
    | refine Le.loop (fun _ => ?_)
    | refine Le.loopF (fun _ => ?_)
theorem LE_retracelaw26_live  : Le (X_retracelaw26_live ) (F_retracelaw26_live ) := by
  unfold X_retracelaw26_live F_retracelaw26_live
  repeat' with_reducible first
    | apply LE_clock_Due
    | apply LE_clock_Later
    | apply LE_clock_Waits
    | apply LE_clock_Waits_v2
    | apply LE_retracelaw26_live_J1
    | exact Le.non _
    | exact Le.rf _
    | refine Le.grd ?_
    | refine Le.bind ?_ (fun _ => ?_)
    | refine Le.cond ?_ ?_
    | refine Le.map ?_
    | refine Le.elim (fun _ => ?_) (fun _ => ?_)
    | refine Le.loop (fun _ => ?_)
    | refine Le.loopF (fun _ => ?_)
theorem ev_retracelaw26_live : F_retracelaw26_live = some true := LE_retracelaw26_live _ (by kernel_rfl)
end Go.Ab
