import Derived.Test.YtilfkpmojnammaaAbLib
import Derived.Test.YtilfkpmojnammaaProg
namespace Go.Ab
open Go.Proofs
set_option linter.unusedVariables false
structure T_retracelaw23_Act where
  Kind : Int
  X : ByteArray
  N : Int
abbrev T_retracelaw23_Act.enc (x : T_retracelaw23_Act) : List D := [.int .i64 x.Kind, .str x.X, .int .i64 x.N]
theorem T_retracelaw23_Act.enc_len (x : T_retracelaw23_Act) : (T_retracelaw23_Act.enc x).length = 3 := rfl
abbrev T_retracelaw23_Act.pvs (x : T_retracelaw23_Act) : List PV := [i64 x.Kind, sv x.X, i64 x.N]
structure T_stack_Stack_int_ where
  l : (List Int)
  most : Int
abbrev T_stack_Stack_int_.enc (x : T_stack_Stack_int_) : List D := [.list false (x.l).length (encL (eInt .i64) x.l), .int .i64 x.most]
theorem T_stack_Stack_int_.enc_len (x : T_stack_Stack_int_) : (T_stack_Stack_int_.enc x).length = 2 := rfl
abbrev T_stack_Stack_int_.pvs (x : T_stack_Stack_int_) : List PV := [lv (eInt .i64) x.l, i64 x.most]
structure T_stack_Stack_string_ where
  l : (List ByteArray)
  most : Int
abbrev T_stack_Stack_string_.enc (x : T_stack_Stack_string_) : List D := [.list false (x.l).length (encL eStr x.l), .int .i64 x.most]
theorem T_stack_Stack_string_.enc_len (x : T_stack_Stack_string_) : (T_stack_Stack_string_.enc x).length = 2 := rfl
abbrev T_stack_Stack_string_.pvs (x : T_stack_Stack_string_) : List PV := [lv eStr x.l, i64 x.most]

/- stack_New_int -/
noncomputable def F_stack_New_int (p0 : Int) : Option (T_stack_Stack_int_) :=
  some (⟨([] : (List Int)), (if 0 > p0 then 0 else p0)⟩ : T_stack_Stack_int_)
/- stack_Stack_int_Room -/
noncomputable def F_stack_Stack_int_Room (o0 : T_stack_Stack_int_) : Option (Int) :=
  some (w64 (o0.most - ((o0.l).length : Int)))
/- stack_Stack_int_Push -/
noncomputable def F_stack_Stack_int_Push (p1 : Int) (o0 : T_stack_Stack_int_) : Option (Bool × T_stack_Stack_int_) :=
  (F_stack_Stack_int_Room o0).bind fun y5 => cond (y5 == 0) (some (false, o0)) (grd (((o0.l).length + ([p1]).length) * 8 ≤ 140737488355328) <| some (true, (⟨(o0.l ++ [p1]), o0.most⟩ : T_stack_Stack_int_)))
/- stack_Stack_int_Len -/
noncomputable def F_stack_Stack_int_Len (o0 : T_stack_Stack_int_) : Option (Int) :=
  some ((o0.l).length : Int)
/- slices_Clone_int_int -/
noncomputable def F_slices_Clone_int_int (p0 : (List Int)) : Option ((List Int)) :=
  grd (((([] : List Int)).length + (p0).length) * 8 ≤ 140737488355328) <| some (([] : List Int) ++ p0)
/- stack_Stack_int_Take -/
noncomputable def F_stack_Stack_int_Take_J1 (p1 : Int) (o0 : T_stack_Stack_int_) (y2 : Int) (x8 : Bool) : Option (((List Int) × Bool) ⊕ ((List Int) × Bool × T_stack_Stack_int_)) :=
  cond x8 (some (.inl (([] : List Int), false))) (grd ((0 : Int) ≤ (w64 (y2 - p1)) ∧ (w64 (y2 - p1)) ≤ ((o0.l).length : Int) ∧ ((o0.l).length : Int) ≤ ((o0.l).length : Int)) <| (F_slices_Clone_int_int (lCut o0.l (w64 (y2 - p1)) ((o0.l).length : Int))).bind fun y13 => grd ((0 : Int) ≤ 0 ∧ 0 ≤ (w64 (y2 - p1)) ∧ (w64 (y2 - p1)) ≤ ((o0.l).length : Int) ∧ (w64 (y2 - p1)) = (w64 (y2 - p1))) <| some (.inr (y13, true, (⟨(lCut o0.l 0 (w64 (y2 - p1))), o0.most⟩ : T_stack_Stack_int_))))
noncomputable def F_stack_Stack_int_Take (p1 : Int) (o0 : T_stack_Stack_int_) : Option (((List Int) × Bool) ⊕ ((List Int) × Bool × T_stack_Stack_int_)) :=
  (F_stack_Stack_int_Len o0).bind fun y2 => cond (decide (p1 < 0)) (F_stack_Stack_int_Take_J1 p1 o0 y2 true) (F_stack_Stack_int_Take_J1 p1 o0 y2 (decide ((w64 (y2 - p1)) < 0)))
/- stack_Stack_int_Len_v2 -/
noncomputable def F_stack_Stack_int_Len_v2 (o0 : T_stack_Stack_int_) : Option (Int) :=
  some ((o0.l).length : Int)
/- stack_Stack_int_Room_v2 -/
noncomputable def F_stack_Stack_int_Room_v2 (o0 : T_stack_Stack_int_) : Option (Int) :=
  some (w64 (o0.most - ((o0.l).length : Int)))
/- retracelaw23_live -/
noncomputable def F_retracelaw23_live_J2 (x24 : Bool) : Option (Bool) :=
  some x24
noncomputable def F_retracelaw23_live_J1 (y6 : Bool × T_stack_Stack_int_) (y7 : Bool × T_stack_Stack_int_) (y8 : Bool × T_stack_Stack_int_) (x12 : Bool) (x13 : (List Int)) : Option (Bool) :=
  cond y6.1 (cond y7.1 (cond (!y8.1) (cond x12 (cond (((x13).length : Int) == 2) ((lAt x13 0).bind fun y30 => cond (y30 == 1) ((F_stack_Stack_int_Len y8.2).bind fun y32 => cond (y32 == 0) ((F_stack_Stack_int_Room y8.2).bind fun y34 => F_retracelaw23_live_J2 (y34 == 2)) (F_retracelaw23_live_J2 false)) (F_retracelaw23_live_J2 false)) (F_retracelaw23_live_J2 false)) (F_retracelaw23_live_J2 false)) (F_retracelaw23_live_J2 false)) (F_retracelaw23_live_J2 false)) (F_retracelaw23_live_J2 false)
noncomputable def F_retracelaw23_live_J4 (x49 : Bool) : Option (Bool) :=
  some x49
noncomputable def F_retracelaw23_live_J3 (y6 : Bool × T_stack_Stack_int_) (y7 : Bool × T_stack_Stack_int_) (y8 : Bool × T_stack_Stack_int_) (x35 : Bool) (x36 : (List Int)) (x37 : Int) (x38 : (List Int)) : Option (Bool) :=
  cond y6.1 (cond y7.1 (cond (!y8.1) (cond x35 (cond (((x38).length : Int) == 2) ((lAt x38 0).bind fun y55 => cond (y55 == 1) ((F_stack_Stack_int_Len_v2 (⟨x36, x37⟩ : T_stack_Stack_int_)).bind fun y57 => cond (y57 == 0) ((F_stack_Stack_int_Room_v2 (⟨x36, x37⟩ : T_stack_Stack_int_)).bind fun y59 => F_retracelaw23_live_J4 (y59 == 2)) (F_retracelaw23_live_J4 false)) (F_retracelaw23_live_J4 false)) (F_retracelaw23_live_J4 false)) (F_retracelaw23_live_J4 false)) (F_retracelaw23_live_J4 false)) (F_retracelaw23_live_J4 false)) (F_retracelaw23_live_J4 false)
noncomputable def F_retracelaw23_live  : Option (Bool) :=
  (F_stack_New_int 2).bind fun y2 => (F_stack_Stack_int_Push 1 (⟨([] : List Int), y2.most⟩ : T_stack_Stack_int_)).bind fun y6 => (F_stack_Stack_int_Push 2 y6.2).bind fun y7 => (F_stack_Stack_int_Push 3 y7.2).bind fun y8 => (F_stack_Stack_int_Take 2 y8.2).bind fun y60 => (Sum.elim (fun y61 => F_retracelaw23_live_J1 y6 y7 y8 y61.2 y61.1) (fun y62 => F_retracelaw23_live_J3 y6 y7 y8 y62.2.1 y62.2.2.l y62.2.2.most y62.1)) y60
/- stack_New_string -/
noncomputable def F_stack_New_string (p0 : Int) : Option (T_stack_Stack_string_) :=
  some (⟨([] : (List ByteArray)), (if 0 > p0 then 0 else p0)⟩ : T_stack_Stack_string_)
/- stack_Stack_string_Room -/
noncomputable def F_stack_Stack_string_Room (o0 : T_stack_Stack_string_) : Option (Int) :=
  some (w64 (o0.most - ((o0.l).length : Int)))
/- stack_Stack_string_Push -/
noncomputable def F_stack_Stack_string_Push (p1 : ByteArray) (o0 : T_stack_Stack_string_) : Option (Bool × T_stack_Stack_string_) :=
  (F_stack_Stack_string_Room o0).bind fun y5 => cond (y5 == 0) (some (false, o0)) (grd (((o0.l).length + ([p1]).length) * 16 ≤ 140737488355328) <| some (true, (⟨(o0.l ++ [p1]), o0.most⟩ : T_stack_Stack_string_)))
/- retraceref23_Cut -/
noncomputable def F_retraceref23_Cut_J1 (p0 : (List ByteArray)) (p1 : Int) (x6 : Bool) : Option ((List ByteArray) × (List ByteArray) × Bool) :=
  cond x6 (some (p0, ([] : List ByteArray), false)) (grd ((0 : Int) ≤ 0 ∧ 0 ≤ (w64 (((p0).length : Int) - p1)) ∧ (w64 (((p0).length : Int) - p1)) ≤ ((p0).length : Int)) <| grd ((0 : Int) ≤ (w64 (((p0).length : Int) - p1)) ∧ (w64 (((p0).length : Int) - p1)) ≤ ((p0).length : Int) ∧ ((p0).length : Int) ≤ ((p0).length : Int)) <| some ((lCut p0 0 (w64 (((p0).length : Int) - p1))), (lCut p0 (w64 (((p0).length : Int) - p1)) ((p0).length : Int)), true))
noncomputable def F_retraceref23_Cut (p0 : (List ByteArray)) (p1 : Int) : Option ((List ByteArray) × (List ByteArray) × Bool) :=
  cond (decide (p1 < 0)) (F_retraceref23_Cut_J1 p0 p1 true) (F_retraceref23_Cut_J1 p0 p1 (decide (((p0).length : Int) < p1)))
/- stack_Stack_string_Len -/
noncomputable def F_stack_Stack_string_Len (o0 : T_stack_Stack_string_) : Option (Int) :=
  some ((o0.l).length : Int)
/- slices_Clone_string_string -/
noncomputable def F_slices_Clone_string_string (p0 : (List ByteArray)) : Option ((List ByteArray)) :=
  grd (((([] : List ByteArray)).length + (p0).length) * 16 ≤ 140737488355328) <| some (([] : List ByteArray) ++ p0)
/- stack_Stack_string_Take -/
noncomputable def F_stack_Stack_string_Take_J1 (p1 : Int) (o0 : T_stack_Stack_string_) (y2 : Int) (x8 : Bool) : Option (((List ByteArray) × Bool) ⊕ ((List ByteArray) × Bool × T_stack_Stack_string_)) :=
  cond x8 (some (.inl (([] : List ByteArray), false))) (grd ((0 : Int) ≤ (w64 (y2 - p1)) ∧ (w64 (y2 - p1)) ≤ ((o0.l).length : Int) ∧ ((o0.l).length : Int) ≤ ((o0.l).length : Int)) <| (F_slices_Clone_string_string (lCut o0.l (w64 (y2 - p1)) ((o0.l).length : Int))).bind fun y13 => grd ((0 : Int) ≤ 0 ∧ 0 ≤ (w64 (y2 - p1)) ∧ (w64 (y2 - p1)) ≤ ((o0.l).length : Int) ∧ (w64 (y2 - p1)) = (w64 (y2 - p1))) <| some (.inr (y13, true, (⟨(lCut o0.l 0 (w64 (y2 - p1))), o0.most⟩ : T_stack_Stack_string_))))
noncomputable def F_stack_Stack_string_Take (p1 : Int) (o0 : T_stack_Stack_string_) : Option (((List ByteArray) × Bool) ⊕ ((List ByteArray) × Bool × T_stack_Stack_string_)) :=
  (F_stack_Stack_string_Len o0).bind fun y2 => cond (decide (p1 < 0)) (F_stack_Stack_string_Take_J1 p1 o0 y2 true) (F_stack_Stack_string_Take_J1 p1 o0 y2 (decide ((w64 (y2 - p1)) < 0)))
/- stack_Stack_string_Pop -/
noncomputable def F_stack_Stack_string_Pop_J1 (x4 : Bool) (x5 : (List ByteArray)) : Option ((ByteArray × Bool) ⊕ (ByteArray × Bool × T_stack_Stack_string_)) :=
  cond (!x4) (some (.inl ((⟨#[]⟩ : ByteArray), false))) ((lAt x5 0).bind fun y9 => some (.inl (y9, true)))
noncomputable def F_stack_Stack_string_Pop_J2 (x10 : Bool) (x11 : (List ByteArray)) (x12 : Int) (x13 : (List ByteArray)) : Option ((ByteArray × Bool) ⊕ (ByteArray × Bool × T_stack_Stack_string_)) :=
  cond (!x10) (some (.inr ((⟨#[]⟩ : ByteArray), false, (⟨x11, x12⟩ : T_stack_Stack_string_)))) ((lAt x13 0).bind fun y17 => some (.inr (y17, true, (⟨x11, x12⟩ : T_stack_Stack_string_))))
noncomputable def F_stack_Stack_string_Pop (o0 : T_stack_Stack_string_) : Option ((ByteArray × Bool) ⊕ (ByteArray × Bool × T_stack_Stack_string_)) :=
  (F_stack_Stack_string_Take 1 o0).bind fun y18 => (Sum.elim (fun y19 => F_stack_Stack_string_Pop_J1 y19.2 y19.1) (fun y20 => F_stack_Stack_string_Pop_J2 y20.2.1 y20.2.2.l y20.2.2.most y20.1)) y18
/- retraceref23_Same -/
noncomputable def F_retraceref23_Same_L1 (p0 : (List ByteArray)) (p1 : (List ByteArray)) (x22 : Int) : Option ((Int) ⊕ (Bool)) :=
  cond (decide (x22 < ((p0).length : Int))) ((lAt p0 x22).bind fun y34 => (lAt p1 x22).bind fun y35 => cond (!(y34.toList == y35.toList)) ((some false).map Sum.inr) (some (.inl (w64 (x22 + 1))))) ((some true).map Sum.inr)
noncomputable def F_retraceref23_Same (p0 : (List ByteArray)) (p1 : (List ByteArray)) : Option (Bool) :=
  cond (((p0).length : Int) != ((p1).length : Int)) (some false) (Loop (fun s : (Int) => F_retraceref23_Same_L1 p0 p1 s) 0)
/- stack_Stack_string_Len_v2 -/
noncomputable def F_stack_Stack_string_Len_v2 (o0 : T_stack_Stack_string_) : Option (Int) :=
  some ((o0.l).length : Int)
/- stack_Stack_string_Room_v2 -/
noncomputable def F_stack_Stack_string_Room_v2 (o0 : T_stack_Stack_string_) : Option (Int) :=
  some (w64 (o0.most - ((o0.l).length : Int)))
/- stack_Stack_string_Push_v2 -/
noncomputable def F_stack_Stack_string_Push_v2 (p1 : ByteArray) (o0 : T_stack_Stack_string_) : Option ((Bool) ⊕ (Bool × T_stack_Stack_string_)) :=
  (F_stack_Stack_string_Room_v2 o0).bind fun y5 => cond (y5 == 0) (some (.inl false)) (grd ((0 < ([p1]).length ∨ (o0.l).length = 0) ∧ ((o0.l).length + ([p1]).length) * 16 ≤ 140737488355328) <| some (.inr (true, (⟨(o0.l ++ [p1]), o0.most⟩ : T_stack_Stack_string_))))
/- stack_Stack_string_Take_v2 -/
noncomputable def F_stack_Stack_string_Take_v2_J1 (p1 : Int) (o0 : T_stack_Stack_string_) (y2 : Int) (x8 : Bool) : Option ((List ByteArray) × Bool × T_stack_Stack_string_) :=
  cond x8 (some (([] : List ByteArray), false, o0)) (grd ((0 : Int) ≤ (w64 (y2 - p1)) ∧ (w64 (y2 - p1)) ≤ ((o0.l).length : Int) ∧ ((o0.l).length : Int) ≤ ((o0.l).length : Int)) <| (F_slices_Clone_string_string (lCut o0.l (w64 (y2 - p1)) ((o0.l).length : Int))).bind fun y13 => grd ((0 : Int) ≤ 0 ∧ 0 ≤ (w64 (y2 - p1)) ∧ (w64 (y2 - p1)) ≤ ((o0.l).length : Int) ∧ (w64 (y2 - p1)) = (w64 (y2 - p1))) <| some (y13, true, (⟨(lCut o0.l 0 (w64 (y2 - p1))), o0.most⟩ : T_stack_Stack_string_)))
noncomputable def F_stack_Stack_string_Take_v2 (p1 : Int) (o0 : T_stack_Stack_string_) : Option ((List ByteArray) × Bool × T_stack_Stack_string_) :=
  (F_stack_Stack_string_Len_v2 o0).bind fun y2 => cond (decide (p1 < 0)) (F_stack_Stack_string_Take_v2_J1 p1 o0 y2 true) (F_stack_Stack_string_Take_v2_J1 p1 o0 y2 (decide ((w64 (y2 - p1)) < 0)))
/- stack_Stack_string_Pop_v2 -/
noncomputable def F_stack_Stack_string_Pop_v2 (o0 : T_stack_Stack_string_) : Option (ByteArray × Bool × T_stack_Stack_string_) :=
  (F_stack_Stack_string_Take_v2 1 o0).bind fun y2 => cond (!y2.2.1) (some ((⟨#[]⟩ : ByteArray), false, y2.2.2)) ((lAt y2.1 0).bind fun y6 => some (y6, true, y2.2.2))
/- retracelaw23_StackPlays -/
noncomputable def F_retracelaw23_StackPlays_J2  : Option (Bool) :=
  (F_retracelaw23_live).bind fun y918 => some y918
noncomputable def F_retracelaw23_StackPlays_J3 (x920 : Int) (x1189 : (List ByteArray)) (x1190 : Int) (x1191 : (List ByteArray)) : Option ((((List ByteArray) × Int × Int × (List ByteArray)) ⊕ ((List ByteArray) × Int × (List ByteArray) × Int)) ⊕ (Bool)) :=
  some (.inl (.inl (x1189, (w64 (x920 + 1)), x1190, x1191)))
noncomputable def F_retracelaw23_StackPlays_J4 (x920 : Int) (x1192 : (List ByteArray)) (x1193 : (List ByteArray)) (x1194 : Int) : Option ((((List ByteArray) × Int × Int × (List ByteArray)) ⊕ ((List ByteArray) × Int × (List ByteArray) × Int)) ⊕ (Bool)) :=
  some (.inl (.inr ((x1192, (w64 (x920 + 1)), x1193, x1194))))
noncomputable def F_retracelaw23_StackPlays_J6 (x920 : Int) (x1314 : (List ByteArray)) (x1315 : Int) (x1316 : (List ByteArray)) (x1320 : Bool) : Option ((((List ByteArray) × Int × Int × (List ByteArray)) ⊕ ((List ByteArray) × Int × (List ByteArray) × Int)) ⊕ (Bool)) :=
  cond x1320 ((some false).map Sum.inr) (F_retracelaw23_StackPlays_J3 x920 x1314 x1315 x1316)
noncomputable def F_retracelaw23_StackPlays_J5 (p0 : Int) (x920 : Int) (x1314 : (List ByteArray)) (x1315 : Int) (x1316 : (List ByteArray)) : Option ((((List ByteArray) × Int × Int × (List ByteArray)) ⊕ ((List ByteArray) × Int × (List ByteArray) × Int)) ⊕ (Bool)) :=
  (F_stack_Stack_string_Len (⟨x1316, x1315⟩ : T_stack_Stack_string_)).bind fun y1324 => cond (y1324 != ((x1314).length : Int)) (F_retracelaw23_StackPlays_J6 x920 x1314 x1315 x1316 true) ((F_stack_Stack_string_Room (⟨x1316, x1315⟩ : T_stack_Stack_string_)).bind fun y1326 => F_retracelaw23_StackPlays_J6 x920 x1314 x1315 x1316 (y1326 != (w64 ((if 0 > p0 then 0 else p0) - ((x1314).length : Int)))))
noncomputable def F_retracelaw23_StackPlays_J8 (x920 : Int) (x1327 : (List ByteArray)) (x1328 : (List ByteArray)) (x1329 : Int) (x1333 : Bool) : Option ((((List ByteArray) × Int × Int × (List ByteArray)) ⊕ ((List ByteArray) × Int × (List ByteArray) × Int)) ⊕ (Bool)) :=
  cond x1333 ((some false).map Sum.inr) (F_retracelaw23_StackPlays_J4 x920 x1327 x1328 x1329)
noncomputable def F_retracelaw23_StackPlays_J7 (p0 : Int) (x920 : Int) (x1327 : (List ByteArray)) (x1328 : (List ByteArray)) (x1329 : Int) : Option ((((List ByteArray) × Int × Int × (List ByteArray)) ⊕ ((List ByteArray) × Int × (List ByteArray) × Int)) ⊕ (Bool)) :=
  (F_stack_Stack_string_Len_v2 (⟨x1328, x1329⟩ : T_stack_Stack_string_)).bind fun y1337 => cond (y1337 != ((x1327).length : Int)) (F_retracelaw23_StackPlays_J8 x920 x1327 x1328 x1329 true) ((F_stack_Stack_string_Room_v2 (⟨x1328, x1329⟩ : T_stack_Stack_string_)).bind fun y1339 => F_retracelaw23_StackPlays_J8 x920 x1327 x1328 x1329 (y1339 != (w64 ((if 0 > p0 then 0 else p0) - ((x1327).length : Int)))))
noncomputable def F_retracelaw23_StackPlays_J10 (p0 : Int) (x920 : Int) (x921 : Int) (x922 : (List ByteArray)) (y1352 : (List ByteArray) × (List ByteArray) × Bool) (x1378 : Bool) : Option ((((List ByteArray) × Int × Int × (List ByteArray)) ⊕ ((List ByteArray) × Int × (List ByteArray) × Int)) ⊕ (Bool)) :=
  cond x1378 ((some false).map Sum.inr) (F_retracelaw23_StackPlays_J5 p0 x920 y1352.1 x921 x922)
noncomputable def F_retracelaw23_StackPlays_J9 (p0 : Int) (x920 : Int) (x921 : Int) (x922 : (List ByteArray)) (y1352 : (List ByteArray) × (List ByteArray) × Bool) (x1356 : ByteArray) (x1357 : Bool) : Option ((((List ByteArray) × Int × Int × (List ByteArray)) ⊕ ((List ByteArray) × Int × (List ByteArray) × Int)) ⊕ (Bool)) :=
  cond (!(x1357 == y1352.2.2)) (F_retracelaw23_StackPlays_J10 p0 x920 x921 x922 y1352 true) (cond x1357 ((lAt y1352.2.1 0).bind fun y1384 => cond (!(x1356.toList == y1384.toList)) (F_retracelaw23_StackPlays_J10 p0 x920 x921 x922 y1352 true) (cond (!x1357) (F_retracelaw23_StackPlays_J10 p0 x920 x921 x922 y1352 (!(x1356.toList == (⟨#[]⟩ : ByteArray).toList))) (F_retracelaw23_StackPlays_J10 p0 x920 x921 x922 y1352 false))) (cond (!x1357) (F_retracelaw23_StackPlays_J10 p0 x920 x921 x922 y1352 (!(x1356.toList == (⟨#[]⟩ : ByteArray).toList))) (F_retracelaw23_StackPlays_J10 p0 x920 x921 x922 y1352 false)))
noncomputable def F_retracelaw23_StackPlays_J12 (p0 : Int) (x920 : Int) (y1352 : (List ByteArray) × (List ByteArray) × Bool) (x1390 : (List ByteArray)) (x1391 : Int) (x1412 : Bool) : Option ((((List ByteArray) × Int × Int × (List ByteArray)) ⊕ ((List ByteArray) × Int × (List ByteArray) × Int)) ⊕ (Bool)) :=
  cond x1412 ((some false).map Sum.inr) (F_retracelaw23_StackPlays_J7 p0 x920 y1352.1 x1390 x1391)
noncomputable def F_retracelaw23_StackPlays_J11 (p0 : Int) (x920 : Int) (y1352 : (List ByteArray) × (List ByteArray) × Bool) (x1388 : ByteArray) (x1389 : Bool) (x1390 : (List ByteArray)) (x1391 : Int) : Option ((((List ByteArray) × Int × Int × (List ByteArray)) ⊕ ((List ByteArray) × Int × (List ByteArray) × Int)) ⊕ (Bool)) :=
  cond (!(x1389 == y1352.2.2)) (F_retracelaw23_StackPlays_J12 p0 x920 y1352 x1390 x1391 true) (cond x1389 ((lAt y1352.2.1 0).bind fun y1418 => cond (!(x1388.toList == y1418.toList)) (F_retracelaw23_StackPlays_J12 p0 x920 y1352 x1390 x1391 true) (cond (!x1389) (F_retracelaw23_StackPlays_J12 p0 x920 y1352 x1390 x1391 (!(x1388.toList == (⟨#[]⟩ : ByteArray).toList))) (F_retracelaw23_StackPlays_J12 p0 x920 y1352 x1390 x1391 false))) (cond (!x1389) (F_retracelaw23_StackPlays_J12 p0 x920 y1352 x1390 x1391 (!(x1388.toList == (⟨#[]⟩ : ByteArray).toList))) (F_retracelaw23_StackPlays_J12 p0 x920 y1352 x1390 x1391 false)))
noncomputable def F_retracelaw23_StackPlays_J14 (p0 : Int) (x920 : Int) (x921 : Int) (x922 : (List ByteArray)) (y1426 : (List ByteArray) × (List ByteArray) × Bool) (x1440 : Bool) : Option ((((List ByteArray) × Int × Int × (List ByteArray)) ⊕ ((List ByteArray) × Int × (List ByteArray) × Int)) ⊕ (Bool)) :=
  cond x1440 ((some false).map Sum.inr) (F_retracelaw23_StackPlays_J5 p0 x920 y1426.1 x921 x922)
noncomputable def F_retracelaw23_StackPlays_J13 (p0 : Int) (x920 : Int) (x921 : Int) (x922 : (List ByteArray)) (y1426 : (List ByteArray) × (List ByteArray) × Bool) (x1430 : Bool) (x1431 : (List ByteArray)) : Option ((((List ByteArray) × Int × Int × (List ByteArray)) ⊕ ((List ByteArray) × Int × (List ByteArray) × Int)) ⊕ (Bool)) :=
  cond (!(x1430 == y1426.2.2)) (F_retracelaw23_StackPlays_J14 p0 x920 x921 x922 y1426 true) ((F_retraceref23_Same x1431 y1426.2.1).bind fun y1445 => F_retracelaw23_StackPlays_J14 p0 x920 x921 x922 y1426 (!y1445))
noncomputable def F_retracelaw23_StackPlays_J16 (p0 : Int) (x920 : Int) (y1426 : (List ByteArray) × (List ByteArray) × Bool) (x1447 : (List ByteArray)) (x1448 : Int) (x1458 : Bool) : Option ((((List ByteArray) × Int × Int × (List ByteArray)) ⊕ ((List ByteArray) × Int × (List ByteArray) × Int)) ⊕ (Bool)) :=
  cond x1458 ((some false).map Sum.inr) (F_retracelaw23_StackPlays_J7 p0 x920 y1426.1 x1447 x1448)
noncomputable def F_retracelaw23_StackPlays_J15 (p0 : Int) (x920 : Int) (y1426 : (List ByteArray) × (List ByteArray) × Bool) (x1446 : Bool) (x1447 : (List ByteArray)) (x1448 : Int) (x1449 : (List ByteArray)) : Option ((((List ByteArray) × Int × Int × (List ByteArray)) ⊕ ((List ByteArray) × Int × (List ByteArray) × Int)) ⊕ (Bool)) :=
  cond (!(x1446 == y1426.2.2)) (F_retracelaw23_StackPlays_J16 p0 x920 y1426 x1447 x1448 true) ((F_retraceref23_Same x1449 y1426.2.1).bind fun y1463 => F_retracelaw23_StackPlays_J16 p0 x920 y1426 x1447 x1448 (!y1463))
noncomputable def F_retracelaw23_StackPlays_L17 (p0 : Int) (p1 : (List T_retracelaw23_Act)) (x919 : (List ByteArray)) (x920 : Int) (x921 : Int) (x922 : (List ByteArray)) : Option ((((List ByteArray) × Int × Int × (List ByteArray)) ⊕ ((List ByteArray) × Int × (List ByteArray) × Int)) ⊕ (Bool)) :=
  cond (decide (x920 < ((p1).length : Int))) ((lAt p1 x920).bind fun y1196 => cond (y1196.Kind == 0) ((F_stack_Stack_string_Push y1196.X (⟨x922, x921⟩ : T_stack_Stack_string_)).bind fun y1342 => cond (!(y1342.1 == (decide (((x919).length : Int) < p0)))) ((some false).map Sum.inr) (cond y1342.1 (grd (((([] : List ByteArray)).length + (x919).length) * 16 ≤ 140737488355328) <| grd ((((([] : List ByteArray) ++ x919)).length + ([y1196.X]).length) * 16 ≤ 140737488355328) <| F_retracelaw23_StackPlays_J5 p0 x920 ((([] : List ByteArray) ++ x919) ++ [y1196.X]) y1342.2.most y1342.2.l) (F_retracelaw23_StackPlays_J5 p0 x920 x919 y1342.2.most y1342.2.l))) (cond (y1196.Kind == 1) ((F_retraceref23_Cut x919 1).bind fun y1352 => (F_stack_Stack_string_Pop (⟨x922, x921⟩ : T_stack_Stack_string_)).bind fun y1422 => (Sum.elim (fun y1423 => F_retracelaw23_StackPlays_J9 p0 x920 x921 x922 y1352 y1423.1 y1423.2) (fun y1424 => F_retracelaw23_StackPlays_J11 p0 x920 y1352 y1424.1 y1424.2.1 y1424.2.2.l y1424.2.2.most)) y1422) ((F_retraceref23_Cut x919 y1196.N).bind fun y1426 => (F_stack_Stack_string_Take y1196.N (⟨x922, x921⟩ : T_stack_Stack_string_)).bind fun y1464 => (Sum.elim (fun y1465 => F_retracelaw23_StackPlays_J13 p0 x920 x921 x922 y1426 y1465.2 y1465.1) (fun y1466 => F_retracelaw23_StackPlays_J15 p0 x920 y1426 y1466.2.1 y1466.2.2.l y1466.2.2.most y1466.1)) y1464))) ((F_retracelaw23_StackPlays_J2).map Sum.inr)
noncomputable def F_retracelaw23_StackPlays_J18 (x924 : Int) (x1635 : (List ByteArray)) (x1636 : (List ByteArray)) (x1637 : Int) : Option ((((List ByteArray) × Int × Int × (List ByteArray)) ⊕ ((List ByteArray) × Int × (List ByteArray) × Int)) ⊕ (Bool)) :=
  some (.inl (.inr ((x1635, (w64 (x924 + 1)), x1636, x1637))))
noncomputable def F_retracelaw23_StackPlays_J19 (x924 : Int) (x1638 : (List ByteArray)) (x1639 : Int) (x1640 : (List ByteArray)) : Option ((((List ByteArray) × Int × Int × (List ByteArray)) ⊕ ((List ByteArray) × Int × (List ByteArray) × Int)) ⊕ (Bool)) :=
  some (.inl (.inl (x1638, (w64 (x924 + 1)), x1639, x1640)))
noncomputable def F_retracelaw23_StackPlays_J21 (x924 : Int) (x1713 : (List ByteArray)) (x1714 : (List ByteArray)) (x1715 : Int) (x1719 : Bool) : Option ((((List ByteArray) × Int × Int × (List ByteArray)) ⊕ ((List ByteArray) × Int × (List ByteArray) × Int)) ⊕ (Bool)) :=
  cond x1719 ((some false).map Sum.inr) (F_retracelaw23_StackPlays_J18 x924 x1713 x1714 x1715)
noncomputable def F_retracelaw23_StackPlays_J20 (p0 : Int) (x924 : Int) (x1713 : (List ByteArray)) (x1714 : (List ByteArray)) (x1715 : Int) : Option ((((List ByteArray) × Int × Int × (List ByteArray)) ⊕ ((List ByteArray) × Int × (List ByteArray) × Int)) ⊕ (Bool)) :=
  (F_stack_Stack_string_Len_v2 (⟨x1714, x1715⟩ : T_stack_Stack_string_)).bind fun y1723 => cond (y1723 != ((x1713).length : Int)) (F_retracelaw23_StackPlays_J21 x924 x1713 x1714 x1715 true) ((F_stack_Stack_string_Room_v2 (⟨x1714, x1715⟩ : T_stack_Stack_string_)).bind fun y1725 => F_retracelaw23_StackPlays_J21 x924 x1713 x1714 x1715 (y1725 != (w64 ((if 0 > p0 then 0 else p0) - ((x1713).length : Int)))))
noncomputable def F_retracelaw23_StackPlays_J23 (x924 : Int) (x1726 : (List ByteArray)) (x1727 : Int) (x1728 : (List ByteArray)) (x1732 : Bool) : Option ((((List ByteArray) × Int × Int × (List ByteArray)) ⊕ ((List ByteArray) × Int × (List ByteArray) × Int)) ⊕ (Bool)) :=
  cond x1732 ((some false).map Sum.inr) (F_retracelaw23_StackPlays_J19 x924 x1726 x1727 x1728)
noncomputable def F_retracelaw23_StackPlays_J22 (p0 : Int) (x924 : Int) (x1726 : (List ByteArray)) (x1727 : Int) (x1728 : (List ByteArray)) : Option ((((List ByteArray) × Int × Int × (List ByteArray)) ⊕ ((List ByteArray) × Int × (List ByteArray) × Int)) ⊕ (Bool)) :=
  (F_stack_Stack_string_Len (⟨x1728, x1727⟩ : T_stack_Stack_string_)).bind fun y1736 => cond (y1736 != ((x1726).length : Int)) (F_retracelaw23_StackPlays_J23 x924 x1726 x1727 x1728 true) ((F_stack_Stack_string_Room (⟨x1728, x1727⟩ : T_stack_Stack_string_)).bind fun y1738 => F_retracelaw23_StackPlays_J23 x924 x1726 x1727 x1728 (y1738 != (w64 ((if 0 > p0 then 0 else p0) - ((x1726).length : Int)))))
noncomputable def F_retracelaw23_StackPlays_J24 (p0 : Int) (x923 : (List ByteArray)) (x924 : Int) (x925 : (List ByteArray)) (x926 : Int) (y1642 : T_retracelaw23_Act) (x1743 : Bool) : Option ((((List ByteArray) × Int × Int × (List ByteArray)) ⊕ ((List ByteArray) × Int × (List ByteArray) × Int)) ⊕ (Bool)) :=
  cond (!(x1743 == (decide (((x923).length : Int) < p0)))) ((some false).map Sum.inr) (cond x1743 (grd (((([] : List ByteArray)).length + (x923).length) * 16 ≤ 140737488355328) <| grd ((((([] : List ByteArray) ++ x923)).length + ([y1642.X]).length) * 16 ≤ 140737488355328) <| F_retracelaw23_StackPlays_J20 p0 x924 ((([] : List ByteArray) ++ x923) ++ [y1642.X]) x925 x926) (F_retracelaw23_StackPlays_J20 p0 x924 x923 x925 x926))
noncomputable def F_retracelaw23_StackPlays_J25 (p0 : Int) (x923 : (List ByteArray)) (x924 : Int) (y1642 : T_retracelaw23_Act) (x1751 : Bool) (x1752 : Int) (x1753 : (List ByteArray)) : Option ((((List ByteArray) × Int × Int × (List ByteArray)) ⊕ ((List ByteArray) × Int × (List ByteArray) × Int)) ⊕ (Bool)) :=
  cond (!(x1751 == (decide (((x923).length : Int) < p0)))) ((some false).map Sum.inr) (cond x1751 (grd (((([] : List ByteArray)).length + (x923).length) * 16 ≤ 140737488355328) <| grd ((((([] : List ByteArray) ++ x923)).length + ([y1642.X]).length) * 16 ≤ 140737488355328) <| F_retracelaw23_StackPlays_J22 p0 x924 ((([] : List ByteArray) ++ x923) ++ [y1642.X]) x1752 x1753) (F_retracelaw23_StackPlays_J22 p0 x924 x923 x1752 x1753))
noncomputable def F_retracelaw23_StackPlays_J26 (p0 : Int) (x924 : Int) (y1766 : (List ByteArray) × (List ByteArray) × Bool) (y1768 : ByteArray × Bool × T_stack_Stack_string_) (x1789 : Bool) : Option ((((List ByteArray) × Int × Int × (List ByteArray)) ⊕ ((List ByteArray) × Int × (List ByteArray) × Int)) ⊕ (Bool)) :=
  cond x1789 ((some false).map Sum.inr) (F_retracelaw23_StackPlays_J20 p0 x924 y1766.1 y1768.2.2.l y1768.2.2.most)
noncomputable def F_retracelaw23_StackPlays_J27 (p0 : Int) (x924 : Int) (y1800 : (List ByteArray) × (List ByteArray) × Bool) (y1802 : (List ByteArray) × Bool × T_stack_Stack_string_) (x1811 : Bool) : Option ((((List ByteArray) × Int × Int × (List ByteArray)) ⊕ ((List ByteArray) × Int × (List ByteArray) × Int)) ⊕ (Bool)) :=
  cond x1811 ((some false).map Sum.inr) (F_retracelaw23_StackPlays_J20 p0 x924 y1800.1 y1802.2.2.l y1802.2.2.most)
noncomputable def F_retracelaw23_StackPlays_L28 (p0 : Int) (p1 : (List T_retracelaw23_Act)) (x923 : (List ByteArray)) (x924 : Int) (x925 : (List ByteArray)) (x926 : Int) : Option ((((List ByteArray) × Int × Int × (List ByteArray)) ⊕ ((List ByteArray) × Int × (List ByteArray) × Int)) ⊕ (Bool)) :=
  cond (decide (x924 < ((p1).length : Int))) ((lAt p1 x924).bind fun y1642 => cond (y1642.Kind == 0) ((F_stack_Stack_string_Push_v2 y1642.X (⟨x925, x926⟩ : T_stack_Stack_string_)).bind fun y1761 => (Sum.elim (fun y1762 => F_retracelaw23_StackPlays_J24 p0 x923 x924 x925 x926 y1642 y1762) (fun y1763 => F_retracelaw23_StackPlays_J25 p0 x923 x924 y1642 y1763.1 y1763.2.most y1763.2.l)) y1761) (cond (y1642.Kind == 1) ((F_retraceref23_Cut x923 1).bind fun y1766 => (F_stack_Stack_string_Pop_v2 (⟨x925, x926⟩ : T_stack_Stack_string_)).bind fun y1768 => cond (!(y1768.2.1 == y1766.2.2)) (F_retracelaw23_StackPlays_J26 p0 x924 y1766 y1768 true) (cond y1768.2.1 ((lAt y1766.2.1 0).bind fun y1795 => cond (!(y1768.1.toList == y1795.toList)) (F_retracelaw23_StackPlays_J26 p0 x924 y1766 y1768 true) (cond (!y1768.2.1) (F_retracelaw23_StackPlays_J26 p0 x924 y1766 y1768 (!(y1768.1.toList == (⟨#[]⟩ : ByteArray).toList))) (F_retracelaw23_StackPlays_J26 p0 x924 y1766 y1768 false))) (cond (!y1768.2.1) (F_retracelaw23_StackPlays_J26 p0 x924 y1766 y1768 (!(y1768.1.toList == (⟨#[]⟩ : ByteArray).toList))) (F_retracelaw23_StackPlays_J26 p0 x924 y1766 y1768 false)))) ((F_retraceref23_Cut x923 y1642.N).bind fun y1800 => (F_stack_Stack_string_Take_v2 y1642.N (⟨x925, x926⟩ : T_stack_Stack_string_)).bind fun y1802 => cond (!(y1802.2.1 == y1800.2.2)) (F_retracelaw23_StackPlays_J27 p0 x924 y1800 y1802 true) ((F_retraceref23_Same y1802.1 y1800.2.1).bind fun y1816 => F_retracelaw23_StackPlays_J27 p0 x924 y1800 y1802 (!y1816))))) ((F_retracelaw23_StackPlays_J2).map Sum.inr)
noncomputable def F_retracelaw23_StackPlays_J1 (p0 : Int) (p1 : (List T_retracelaw23_Act)) (x11 : Bool) : Option (Bool) :=
  cond x11 ((F_retracelaw23_live).bind fun y14 => some y14) ((F_stack_New_string p0).bind fun y16 => Loop (Sum.elim (fun s : (List ByteArray) × Int × Int × (List ByteArray) => F_retracelaw23_StackPlays_L17 p0 p1 s.1 s.2.1 s.2.2.1 s.2.2.2) (fun s : (List ByteArray) × Int × (List ByteArray) × Int => F_retracelaw23_StackPlays_L28 p0 p1 s.1 s.2.1 s.2.2.1 s.2.2.2)) (.inl (([] : List ByteArray), 0, y16.most, ([] : (List ByteArray))) : (((List ByteArray) × Int × Int × (List ByteArray)) ⊕ ((List ByteArray) × Int × (List ByteArray) × Int))))
noncomputable def F_retracelaw23_StackPlays (p0 : Int) (p1 : (List T_retracelaw23_Act)) : Option (Bool) :=
  cond (decide (100 < ((p1).length : Int))) (F_retracelaw23_StackPlays_J1 p0 p1 true) ((F_retracelaw23_live).bind fun y1820 => F_retracelaw23_StackPlays_J1 p0 p1 (!y1820))

theorem mixedOrd : Try.prog.follows .mixedOrders = true := by kernel_rfl
end Go.Ab
