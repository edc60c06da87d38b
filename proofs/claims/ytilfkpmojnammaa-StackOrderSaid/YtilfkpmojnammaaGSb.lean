import Derived.Test.YtilfkpmojnammaaAbLib
import Derived.Test.YtilfkpmojnammaaProg
namespace Go.Ab
open Go.Proofs
set_option linter.unusedVariables false
structure T_stack_Stack_int_ where
  l : (List Int)
  most : Int
abbrev T_stack_Stack_int_.enc (x : T_stack_Stack_int_) : List D := [.list false (x.l).length (encL (eInt .i64) x.l), .int .i64 x.most]
theorem T_stack_Stack_int_.enc_len (x : T_stack_Stack_int_) : (T_stack_Stack_int_.enc x).length = 2 := rfl
abbrev T_stack_Stack_int_.pvs (x : T_stack_Stack_int_) : List PV := [lv (eInt .i64) x.l, i64 x.most]
structure T_stack_Stack_string_ where
  l : (List ByteArray)
  most : Int
abbrev T_stack_Stack_string_.enc (x : T_stack_Stack_string_) : List D := [.list false (x.l).length (encL eStr x.l), .int .i64 x.most]
theorem T_stack_Stack_string_.enc_len (x : T_stack_Stack_string_) : (T_stack_Stack_string_.enc x).length = 2 := rfl
abbrev T_stack_Stack_string_.pvs (x : T_stack_Stack_string_) : List PV := [lv eStr x.l, i64 x.most]

/- stack_New_int -/
noncomputable def F_stack_New_int (p0 : Int) : Option (T_stack_Stack_int_) :=
  some (⟨([] : (List Int)), (if 0 > p0 then 0 else p0)⟩ : T_stack_Stack_int_)
/- stack_Stack_int_Room -/
noncomputable def F_stack_Stack_int_Room (o0 : T_stack_Stack_int_) : Option (Int) :=
  some (w64 (o0.most - ((o0.l).length : Int)))
/- stack_Stack_int_Push -/
noncomputable def F_stack_Stack_int_Push (p1 : Int) (o0 : T_stack_Stack_int_) : Option (Bool × T_stack_Stack_int_) :=
  (F_stack_Stack_int_Room o0).bind fun y5 => cond (y5 == 0) (some (false, o0)) (grd (((o0.l).length + ([p1]).length) * 8 ≤ 140737488355328) <| some (true, (⟨(o0.l ++ [p1]), o0.most⟩ : T_stack_Stack_int_)))
/- stack_Stack_int_Len -/
noncomputable def F_stack_Stack_int_Len (o0 : T_stack_Stack_int_) : Option (Int) :=
  some ((o0.l).length : Int)
/- slices_Clone_int_int -/
noncomputable def F_slices_Clone_int_int (p0 : (List Int)) : Option ((List Int)) :=
  grd (((([] : List Int)).length + (p0).length) * 8 ≤ 140737488355328) <| some (([] : List Int) ++ p0)
/- stack_Stack_int_Take -/
noncomputable def F_stack_Stack_int_Take_J1 (p1 : Int) (o0 : T_stack_Stack_int_) (y2 : Int) (x8 : Bool) : Option (((List Int) × Bool) ⊕ ((List Int) × Bool × T_stack_Stack_int_)) :=
  cond x8 (some (.inl (([] : List Int), false))) (grd ((0 : Int) ≤ (w64 (y2 - p1)) ∧ (w64 (y2 - p1)) ≤ ((o0.l).length : Int) ∧ ((o0.l).length : Int) ≤ ((o0.l).length : Int)) <| (F_slices_Clone_int_int (lCut o0.l (w64 (y2 - p1)) ((o0.l).length : Int))).bind fun y13 => grd ((0 : Int) ≤ 0 ∧ 0 ≤ (w64 (y2 - p1)) ∧ (w64 (y2 - p1)) ≤ ((o0.l).length : Int) ∧ (w64 (y2 - p1)) = (w64 (y2 - p1))) <| some (.inr (y13, true, (⟨(lCut o0.l 0 (w64 (y2 - p1))), o0.most⟩ : T_stack_Stack_int_))))
noncomputable def F_stack_Stack_int_Take (p1 : Int) (o0 : T_stack_Stack_int_) : Option (((List Int) × Bool) ⊕ ((List Int) × Bool × T_stack_Stack_int_)) :=
  (F_stack_Stack_int_Len o0).bind fun y2 => cond (decide (p1 < 0)) (F_stack_Stack_int_Take_J1 p1 o0 y2 true) (F_stack_Stack_int_Take_J1 p1 o0 y2 (decide ((w64 (y2 - p1)) < 0)))
/- stack_Stack_int_Len_v2 -/
noncomputable def F_stack_Stack_int_Len_v2 (o0 : T_stack_Stack_int_) : Option (Int) :=
  some ((o0.l).length : Int)
/- stack_Stack_int_Room_v2 -/
noncomputable def F_stack_Stack_int_Room_v2 (o0 : T_stack_Stack_int_) : Option (Int) :=
  some (w64 (o0.most - ((o0.l).length : Int)))
/- retracelaw23_live -/
noncomputable def F_retracelaw23_live_J2 (x24 : Bool) : Option (Bool) :=
  some x24
noncomputable def F_retracelaw23_live_J1 (y6 : Bool × T_stack_Stack_int_) (y7 : Bool × T_stack_Stack_int_) (y8 : Bool × T_stack_Stack_int_) (x12 : Bool) (x13 : (List Int)) : Option (Bool) :=
  cond y6.1 (cond y7.1 (cond (!y8.1) (cond x12 (cond (((x13).length : Int) == 2) ((lAt x13 0).bind fun y30 => cond (y30 == 1) ((F_stack_Stack_int_Len y8.2).bind fun y32 => cond (y32 == 0) ((F_stack_Stack_int_Room y8.2).bind fun y34 => F_retracelaw23_live_J2 (y34 == 2)) (F_retracelaw23_live_J2 false)) (F_retracelaw23_live_J2 false)) (F_retracelaw23_live_J2 false)) (F_retracelaw23_live_J2 false)) (F_retracelaw23_live_J2 false)) (F_retracelaw23_live_J2 false)) (F_retracelaw23_live_J2 false)
noncomputable def F_retracelaw23_live_J4 (x49 : Bool) : Option (Bool) :=
  some x49
noncomputable def F_retracelaw23_live_J3 (y6 : Bool × T_stack_Stack_int_) (y7 : Bool × T_stack_Stack_int_) (y8 : Bool × T_stack_Stack_int_) (x35 : Bool) (x36 : (List Int)) (x37 : Int) (x38 : (List Int)) : Option (Bool) :=
  cond y6.1 (cond y7.1 (cond (!y8.1) (cond x35 (cond (((x38).length : Int) == 2) ((lAt x38 0).bind fun y55 => cond (y55 == 1) ((F_stack_Stack_int_Len_v2 (⟨x36, x37⟩ : T_stack_Stack_int_)).bind fun y57 => cond (y57 == 0) ((F_stack_Stack_int_Room_v2 (⟨x36, x37⟩ : T_stack_Stack_int_)).bind fun y59 => F_retracelaw23_live_J4 (y59 == 2)) (F_retracelaw23_live_J4 false)) (F_retracelaw23_live_J4 false)) (F_retracelaw23_live_J4 false)) (F_retracelaw23_live_J4 false)) (F_retracelaw23_live_J4 false)) (F_retracelaw23_live_J4 false)) (F_retracelaw23_live_J4 false)
noncomputable def F_retracelaw23_live  : Option (Bool) :=
  (F_stack_New_int 2).bind fun y2 => (F_stack_Stack_int_Push 1 (⟨([] : List Int), y2.most⟩ : T_stack_Stack_int_)).bind fun y6 => (F_stack_Stack_int_Push 2 y6.2).bind fun y7 => (F_stack_Stack_int_Push 3 y7.2).bind fun y8 => (F_stack_Stack_int_Take 2 y8.2).bind fun y60 => (Sum.elim (fun y61 => F_retracelaw23_live_J1 y6 y7 y8 y61.2 y61.1) (fun y62 => F_retracelaw23_live_J3 y6 y7 y8 y62.2.1 y62.2.2.l y62.2.2.most y62.1)) y60
/- stack_New_string -/
noncomputable def F_stack_New_string (p0 : Int) : Option (T_stack_Stack_string_) :=
  some (⟨([] : (List ByteArray)), (if 0 > p0 then 0 else p0)⟩ : T_stack_Stack_string_)
/- stack_Stack_string_Room -/
noncomputable def F_stack_Stack_string_Room (o0 : T_stack_Stack_string_) : Option (Int) :=
  some (w64 (o0.most - ((o0.l).length : Int)))
/- stack_Stack_string_Push -/
noncomputable def F_stack_Stack_string_Push (p1 : ByteArray) (o0 : T_stack_Stack_string_) : Option (Bool × T_stack_Stack_string_) :=
  (F_stack_Stack_string_Room o0).bind fun y5 => cond (y5 == 0) (some (false, o0)) (grd (((o0.l).length + ([p1]).length) * 16 ≤ 140737488355328) <| some (true, (⟨(o0.l ++ [p1]), o0.most⟩ : T_stack_Stack_string_)))
/- stack_Stack_string_Len -/
noncomputable def F_stack_Stack_string_Len (o0 : T_stack_Stack_string_) : Option (Int) :=
  some ((o0.l).length : Int)
/- slices_Clone_string_string -/
noncomputable def F_slices_Clone_string_string (p0 : (List ByteArray)) : Option ((List ByteArray)) :=
  grd (((([] : List ByteArray)).length + (p0).length) * 16 ≤ 140737488355328) <| some (([] : List ByteArray) ++ p0)
/- stack_Stack_string_Take -/
noncomputable def F_stack_Stack_string_Take_J1 (p1 : Int) (o0 : T_stack_Stack_string_) (y2 : Int) (x8 : Bool) : Option (((List ByteArray) × Bool) ⊕ ((List ByteArray) × Bool × T_stack_Stack_string_)) :=
  cond x8 (some (.inl (([] : List ByteArray), false))) (grd ((0 : Int) ≤ (w64 (y2 - p1)) ∧ (w64 (y2 - p1)) ≤ ((o0.l).length : Int) ∧ ((o0.l).length : Int) ≤ ((o0.l).length : Int)) <| (F_slices_Clone_string_string (lCut o0.l (w64 (y2 - p1)) ((o0.l).length : Int))).bind fun y13 => grd ((0 : Int) ≤ 0 ∧ 0 ≤ (w64 (y2 - p1)) ∧ (w64 (y2 - p1)) ≤ ((o0.l).length : Int) ∧ (w64 (y2 - p1)) = (w64 (y2 - p1))) <| some (.inr (y13, true, (⟨(lCut o0.l 0 (w64 (y2 - p1))), o0.most⟩ : T_stack_Stack_string_))))
noncomputable def F_stack_Stack_string_Take (p1 : Int) (o0 : T_stack_Stack_string_) : Option (((List ByteArray) × Bool) ⊕ ((List ByteArray) × Bool × T_stack_Stack_string_)) :=
  (F_stack_Stack_string_Len o0).bind fun y2 => cond (decide (p1 < 0)) (F_stack_Stack_string_Take_J1 p1 o0 y2 true) (F_stack_Stack_string_Take_J1 p1 o0 y2 (decide ((w64 (y2 - p1)) < 0)))
/- stack_Stack_string_Pop -/
noncomputable def F_stack_Stack_string_Pop_J1 (x4 : Bool) (x5 : (List ByteArray)) : Option ((ByteArray × Bool) ⊕ (ByteArray × Bool × T_stack_Stack_string_)) :=
  cond (!x4) (some (.inl ((⟨#[]⟩ : ByteArray), false))) ((lAt x5 0).bind fun y9 => some (.inl (y9, true)))
noncomputable def F_stack_Stack_string_Pop_J2 (x10 : Bool) (x11 : (List ByteArray)) (x12 : Int) (x13 : (List ByteArray)) : Option ((ByteArray × Bool) ⊕ (ByteArray × Bool × T_stack_Stack_string_)) :=
  cond (!x10) (some (.inr ((⟨#[]⟩ : ByteArray), false, (⟨x11, x12⟩ : T_stack_Stack_string_)))) ((lAt x13 0).bind fun y17 => some (.inr (y17, true, (⟨x11, x12⟩ : T_stack_Stack_string_))))
noncomputable def F_stack_Stack_string_Pop (o0 : T_stack_Stack_string_) : Option ((ByteArray × Bool) ⊕ (ByteArray × Bool × T_stack_Stack_string_)) :=
  (F_stack_Stack_string_Take 1 o0).bind fun y18 => (Sum.elim (fun y19 => F_stack_Stack_string_Pop_J1 y19.2 y19.1) (fun y20 => F_stack_Stack_string_Pop_J2 y20.2.1 y20.2.2.l y20.2.2.most y20.1)) y18
/- stack_Stack_string_Len_v2 -/
noncomputable def F_stack_Stack_string_Len_v2 (o0 : T_stack_Stack_string_) : Option (Int) :=
  some ((o0.l).length : Int)
/- stack_Stack_string_Take_v2 -/
noncomputable def F_stack_Stack_string_Take_v2_J1 (p1 : Int) (o0 : T_stack_Stack_string_) (y2 : Int) (x8 : Bool) : Option ((List ByteArray) × Bool × T_stack_Stack_string_) :=
  cond x8 (some (([] : List ByteArray), false, o0)) (grd ((0 : Int) ≤ (w64 (y2 - p1)) ∧ (w64 (y2 - p1)) ≤ ((o0.l).length : Int) ∧ ((o0.l).length : Int) ≤ ((o0.l).length : Int)) <| (F_slices_Clone_string_string (lCut o0.l (w64 (y2 - p1)) ((o0.l).length : Int))).bind fun y13 => grd ((0 : Int) ≤ 0 ∧ 0 ≤ (w64 (y2 - p1)) ∧ (w64 (y2 - p1)) ≤ ((o0.l).length : Int) ∧ (w64 (y2 - p1)) = (w64 (y2 - p1))) <| some (y13, true, (⟨(lCut o0.l 0 (w64 (y2 - p1))), o0.most⟩ : T_stack_Stack_string_)))
noncomputable def F_stack_Stack_string_Take_v2 (p1 : Int) (o0 : T_stack_Stack_string_) : Option ((List ByteArray) × Bool × T_stack_Stack_string_) :=
  (F_stack_Stack_string_Len_v2 o0).bind fun y2 => cond (decide (p1 < 0)) (F_stack_Stack_string_Take_v2_J1 p1 o0 y2 true) (F_stack_Stack_string_Take_v2_J1 p1 o0 y2 (decide ((w64 (y2 - p1)) < 0)))
/- stack_Stack_string_Pop_v2 -/
noncomputable def F_stack_Stack_string_Pop_v2 (o0 : T_stack_Stack_string_) : Option (ByteArray × Bool × T_stack_Stack_string_) :=
  (F_stack_Stack_string_Take_v2 1 o0).bind fun y2 => cond (!y2.2.1) (some ((⟨#[]⟩ : ByteArray), false, y2.2.2)) ((lAt y2.1 0).bind fun y6 => some (y6, true, y2.2.2))
/- retraceref23_Same -/
noncomputable def F_retraceref23_Same_L1 (p0 : (List ByteArray)) (p1 : (List ByteArray)) (x22 : Int) : Option ((Int) ⊕ (Bool)) :=
  cond (decide (x22 < ((p0).length : Int))) ((lAt p0 x22).bind fun y34 => (lAt p1 x22).bind fun y35 => cond (!(y34.toList == y35.toList)) ((some false).map Sum.inr) (some (.inl (w64 (x22 + 1))))) ((some true).map Sum.inr)
noncomputable def F_retraceref23_Same (p0 : (List ByteArray)) (p1 : (List ByteArray)) : Option (Bool) :=
  cond (((p0).length : Int) != ((p1).length : Int)) (some false) (Loop (fun s : (Int) => F_retraceref23_Same_L1 p0 p1 s) 0)
/- stack_Stack_string_Room_v2 -/
noncomputable def F_stack_Stack_string_Room_v2 (o0 : T_stack_Stack_string_) : Option (Int) :=
  some (w64 (o0.most - ((o0.l).length : Int)))
/- stack_Stack_string_Push_v2 -/
noncomputable def F_stack_Stack_string_Push_v2 (p1 : ByteArray) (o0 : T_stack_Stack_string_) : Option ((Bool) ⊕ (Bool × T_stack_Stack_string_)) :=
  (F_stack_Stack_string_Room_v2 o0).bind fun y5 => cond (y5 == 0) (some (.inl false)) (grd ((0 < ([p1]).length ∨ (o0.l).length = 0) ∧ ((o0.l).length + ([p1]).length) * 16 ≤ 140737488355328) <| some (.inr (true, (⟨(o0.l ++ [p1]), o0.most⟩ : T_stack_Stack_string_))))
/- retracelaw23_StackOrder -/
noncomputable def F_retracelaw23_StackOrder_J2 (x64 : Int) (x94 : Bool) (x95 : Int) (x96 : (List ByteArray)) (x97 : Int) (x98 : (List ByteArray)) : Option ((Int × Int × (List ByteArray) × Int × (List ByteArray)) ⊕ (Bool)) :=
  cond x94 ((some false).map Sum.inr) (some (.inl ((w64 (x64 + 1)), x95, x96, x97, x98)))
noncomputable def F_retracelaw23_StackOrder_J5 (x212 : Bool) : Option (Bool) :=
  some x212
noncomputable def F_retracelaw23_StackOrder_J4 (p0 : (List ByteArray)) (p1 : ByteArray) (x67 : Int) (x68 : (List ByteArray)) (x112 : Bool) (x113 : (List ByteArray)) (y115 : Bool × T_stack_Stack_string_) : Option (Bool) :=
  cond x112 ((F_retraceref23_Same x113 p0).bind fun y214 => cond y214 ((F_stack_Stack_string_Len y115.2).bind fun y216 => cond (y216 == 1) ((F_stack_Stack_string_Len (⟨x68, x67⟩ : T_stack_Stack_string_)).bind fun y218 => cond (y218 == 0) ((F_stack_Stack_string_Push p1 (⟨x68, x67⟩ : T_stack_Stack_string_)).bind fun y220 => cond ((!y220.1) == (((p0).length : Int) == 0)) ((F_retracelaw23_live).bind fun y222 => F_retracelaw23_StackOrder_J5 y222) (F_retracelaw23_StackOrder_J5 false)) (F_retracelaw23_StackOrder_J5 false)) (F_retracelaw23_StackOrder_J5 false)) (F_retracelaw23_StackOrder_J5 false)) (F_retracelaw23_StackOrder_J5 false)
noncomputable def F_retracelaw23_StackOrder_J7 (x239 : Bool) : Option (Bool) :=
  some x239
noncomputable def F_retracelaw23_StackOrder_J6 (p0 : (List ByteArray)) (p1 : ByteArray) (x112 : Bool) (x113 : (List ByteArray)) (y115 : Bool × T_stack_Stack_string_) (x223 : (List ByteArray)) (x224 : Int) : Option (Bool) :=
  cond x112 ((F_retraceref23_Same x113 p0).bind fun y241 => cond y241 ((F_stack_Stack_string_Len y115.2).bind fun y243 => cond (y243 == 1) ((F_stack_Stack_string_Len_v2 (⟨x223, x224⟩ : T_stack_Stack_string_)).bind fun y245 => cond (y245 == 0) ((F_stack_Stack_string_Push_v2 p1 (⟨x223, x224⟩ : T_stack_Stack_string_)).bind fun y247 => (Sum.elim (fun y248 => cond ((!y248) == (((p0).length : Int) == 0)) ((F_retracelaw23_live).bind fun y250 => F_retracelaw23_StackOrder_J7 y250) (F_retracelaw23_StackOrder_J7 false)) (fun y251 => cond ((!y251.1) == (((p0).length : Int) == 0)) ((F_retracelaw23_live).bind fun y253 => F_retracelaw23_StackOrder_J7 y253) (F_retracelaw23_StackOrder_J7 false))) y247) (F_retracelaw23_StackOrder_J7 false)) (F_retracelaw23_StackOrder_J7 false)) (F_retracelaw23_StackOrder_J7 false)) (F_retracelaw23_StackOrder_J7 false)
noncomputable def F_retracelaw23_StackOrder_J8 (x254 : Int) : Option (((Int) ⊕ (Int × (List ByteArray) × Int)) ⊕ (Bool)) :=
  some (.inl (.inl (w64 (x254 - 1))))
noncomputable def F_retracelaw23_StackOrder_J9 (x254 : Int) (x286 : (List ByteArray)) (x287 : Int) : Option (((Int) ⊕ (Int × (List ByteArray) × Int)) ⊕ (Bool)) :=
  some (.inl (.inr (((w64 (x254 - 1)), x286, x287))))
noncomputable def F_retracelaw23_StackOrder_J11 (x254 : Int) (x295 : Bool) : Option (((Int) ⊕ (Int × (List ByteArray) × Int)) ⊕ (Bool)) :=
  cond x295 ((some false).map Sum.inr) (F_retracelaw23_StackOrder_J8 x254)
noncomputable def F_retracelaw23_StackOrder_J10 (p0 : (List ByteArray)) (x254 : Int) (x291 : ByteArray) (x292 : Bool) : Option (((Int) ⊕ (Int × (List ByteArray) × Int)) ⊕ (Bool)) :=
  cond (!x292) (F_retracelaw23_StackOrder_J11 x254 true) ((lAt p0 x254).bind fun y300 => F_retracelaw23_StackOrder_J11 x254 (!(x291.toList == y300.toList)))
noncomputable def F_retracelaw23_StackOrder_J13 (x254 : Int) (x303 : (List ByteArray)) (x304 : Int) (x307 : Bool) : Option (((Int) ⊕ (Int × (List ByteArray) × Int)) ⊕ (Bool)) :=
  cond x307 ((some false).map Sum.inr) (F_retracelaw23_StackOrder_J9 x254 x303 x304)
noncomputable def F_retracelaw23_StackOrder_J12 (p0 : (List ByteArray)) (x254 : Int) (x301 : ByteArray) (x302 : Bool) (x303 : (List ByteArray)) (x304 : Int) : Option (((Int) ⊕ (Int × (List ByteArray) × Int)) ⊕ (Bool)) :=
  cond (!x302) (F_retracelaw23_StackOrder_J13 x254 x303 x304 true) ((lAt p0 x254).bind fun y312 => F_retracelaw23_StackOrder_J13 x254 x303 x304 (!(x301.toList == y312.toList)))
noncomputable def F_retracelaw23_StackOrder_L14 (p0 : (List ByteArray)) (p1 : ByteArray) (x67 : Int) (x68 : (List ByteArray)) (x112 : Bool) (x113 : (List ByteArray)) (y115 : Bool × T_stack_Stack_string_) (x254 : Int) : Option (((Int) ⊕ (Int × (List ByteArray) × Int)) ⊕ (Bool)) :=
  cond (decide (0 ≤ x254)) ((F_stack_Stack_string_Pop (⟨x68, x67⟩ : T_stack_Stack_string_)).bind fun y313 => (Sum.elim (fun y314 => F_retracelaw23_StackOrder_J10 p0 x254 y314.1 y314.2) (fun y315 => F_retracelaw23_StackOrder_J12 p0 x254 y315.1 y315.2.1 y315.2.2.l y315.2.2.most)) y313) ((F_retracelaw23_StackOrder_J4 p0 p1 x67 x68 x112 x113 y115).map Sum.inr)
noncomputable def F_retracelaw23_StackOrder_J15 (x255 : Int) (y329 : ByteArray × Bool × T_stack_Stack_string_) (x332 : Bool) : Option (((Int) ⊕ (Int × (List ByteArray) × Int)) ⊕ (Bool)) :=
  cond x332 ((some false).map Sum.inr) (some (.inl (.inr (((w64 (x255 - 1)), y329.2.2.l, y329.2.2.most)))))
noncomputable def F_retracelaw23_StackOrder_L16 (p0 : (List ByteArray)) (p1 : ByteArray) (x112 : Bool) (x113 : (List ByteArray)) (y115 : Bool × T_stack_Stack_string_) (x255 : Int) (x256 : (List ByteArray)) (x257 : Int) : Option (((Int) ⊕ (Int × (List ByteArray) × Int)) ⊕ (Bool)) :=
  cond (decide (0 ≤ x255)) ((F_stack_Stack_string_Pop_v2 (⟨x256, x257⟩ : T_stack_Stack_string_)).bind fun y329 => cond (!y329.2.1) (F_retracelaw23_StackOrder_J15 x255 y329 true) ((lAt p0 x255).bind fun y337 => F_retracelaw23_StackOrder_J15 x255 y329 (!(y329.1.toList == y337.toList)))) ((F_retracelaw23_StackOrder_J6 p0 p1 x112 x113 y115 x256 x257).map Sum.inr)
noncomputable def F_retracelaw23_StackOrder_J3 (p0 : (List ByteArray)) (p1 : ByteArray) (x65 : Int) (x66 : (List ByteArray)) (x67 : Int) (x68 : (List ByteArray)) (x112 : Bool) (x113 : (List ByteArray)) : Option (Bool) :=
  (F_stack_Stack_string_Push p1 (⟨x66, x65⟩ : T_stack_Stack_string_)).bind fun y115 => Loop (Sum.elim (fun s : Int => F_retracelaw23_StackOrder_L14 p0 p1 x67 x68 x112 x113 y115 s) (fun s : Int × (List ByteArray) × Int => F_retracelaw23_StackOrder_L16 p0 p1 x112 x113 y115 s.1 s.2.1 s.2.2)) (.inl (w64 (((p0).length : Int) - 1)) : ((Int) ⊕ (Int × (List ByteArray) × Int)))
noncomputable def F_retracelaw23_StackOrder_J20 (x443 : Bool) : Option (Bool) :=
  some x443
noncomputable def F_retracelaw23_StackOrder_J19 (p0 : (List ByteArray)) (p1 : ByteArray) (x67 : Int) (x68 : (List ByteArray)) (x340 : Bool) (x341 : (List ByteArray)) (x342 : Int) (x343 : (List ByteArray)) : Option (Bool) :=
  cond x340 ((F_retraceref23_Same x343 p0).bind fun y445 => cond y445 ((F_stack_Stack_string_Len_v2 (⟨x341, x342⟩ : T_stack_Stack_string_)).bind fun y447 => cond (y447 == 1) ((F_stack_Stack_string_Len (⟨x68, x67⟩ : T_stack_Stack_string_)).bind fun y449 => cond (y449 == 0) ((F_stack_Stack_string_Push p1 (⟨x68, x67⟩ : T_stack_Stack_string_)).bind fun y451 => cond ((!y451.1) == (((p0).length : Int) == 0)) ((F_retracelaw23_live).bind fun y453 => F_retracelaw23_StackOrder_J20 y453) (F_retracelaw23_StackOrder_J20 false)) (F_retracelaw23_StackOrder_J20 false)) (F_retracelaw23_StackOrder_J20 false)) (F_retracelaw23_StackOrder_J20 false)) (F_retracelaw23_StackOrder_J20 false)
noncomputable def F_retracelaw23_StackOrder_J22 (x470 : Bool) : Option (Bool) :=
  some x470
noncomputable def F_retracelaw23_StackOrder_J21 (p0 : (List ByteArray)) (p1 : ByteArray) (x340 : Bool) (x341 : (List ByteArray)) (x342 : Int) (x343 : (List ByteArray)) (x454 : (List ByteArray)) (x455 : Int) : Option (Bool) :=
  cond x340 ((F_retraceref23_Same x343 p0).bind fun y472 => cond y472 ((F_stack_Stack_string_Len_v2 (⟨x341, x342⟩ : T_stack_Stack_string_)).bind fun y474 => cond (y474 == 1) ((F_stack_Stack_string_Len_v2 (⟨x454, x455⟩ : T_stack_Stack_string_)).bind fun y476 => cond (y476 == 0) ((F_stack_Stack_string_Push_v2 p1 (⟨x454, x455⟩ : T_stack_Stack_string_)).bind fun y478 => (Sum.elim (fun y479 => cond ((!y479) == (((p0).length : Int) == 0)) ((F_retracelaw23_live).bind fun y481 => F_retracelaw23_StackOrder_J22 y481) (F_retracelaw23_StackOrder_J22 false)) (fun y482 => cond ((!y482.1) == (((p0).length : Int) == 0)) ((F_retracelaw23_live).bind fun y484 => F_retracelaw23_StackOrder_J22 y484) (F_retracelaw23_StackOrder_J22 false))) y478) (F_retracelaw23_StackOrder_J22 false)) (F_retracelaw23_StackOrder_J22 false)) (F_retracelaw23_StackOrder_J22 false)) (F_retracelaw23_StackOrder_J22 false)
noncomputable def F_retracelaw23_StackOrder_J23 (x485 : Int) : Option (((Int) ⊕ (Int × (List ByteArray) × Int)) ⊕ (Bool)) :=
  some (.inl (.inl (w64 (x485 - 1))))
noncomputable def F_retracelaw23_StackOrder_J24 (x485 : Int) (x517 : (List ByteArray)) (x518 : Int) : Option (((Int) ⊕ (Int × (List ByteArray) × Int)) ⊕ (Bool)) :=
  some (.inl (.inr (((w64 (x485 - 1)), x517, x518))))
noncomputable def F_retracelaw23_StackOrder_J26 (x485 : Int) (x526 : Bool) : Option (((Int) ⊕ (Int × (List ByteArray) × Int)) ⊕ (Bool)) :=
  cond x526 ((some false).map Sum.inr) (F_retracelaw23_StackOrder_J23 x485)
noncomputable def F_retracelaw23_StackOrder_J25 (p0 : (List ByteArray)) (x485 : Int) (x522 : ByteArray) (x523 : Bool) : Option (((Int) ⊕ (Int × (List ByteArray) × Int)) ⊕ (Bool)) :=
  cond (!x523) (F_retracelaw23_StackOrder_J26 x485 true) ((lAt p0 x485).bind fun y531 => F_retracelaw23_StackOrder_J26 x485 (!(x522.toList == y531.toList)))
noncomputable def F_retracelaw23_StackOrder_J28 (x485 : Int) (x534 : (List ByteArray)) (x535 : Int) (x538 : Bool) : Option (((Int) ⊕ (Int × (List ByteArray) × Int)) ⊕ (Bool)) :=
  cond x538 ((some false).map Sum.inr) (F_retracelaw23_StackOrder_J24 x485 x534 x535)
noncomputable def F_retracelaw23_StackOrder_J27 (p0 : (List ByteArray)) (x485 : Int) (x532 : ByteArray) (x533 : Bool) (x534 : (List ByteArray)) (x535 : Int) : Option (((Int) ⊕ (Int × (List ByteArray) × Int)) ⊕ (Bool)) :=
  cond (!x533) (F_retracelaw23_StackOrder_J28 x485 x534 x535 true) ((lAt p0 x485).bind fun y543 => F_retracelaw23_StackOrder_J28 x485 x534 x535 (!(x532.toList == y543.toList)))
noncomputable def F_retracelaw23_StackOrder_L29 (p0 : (List ByteArray)) (p1 : ByteArray) (x67 : Int) (x68 : (List ByteArray)) (x340 : Bool) (x341 : (List ByteArray)) (x342 : Int) (x343 : (List ByteArray)) (x485 : Int) : Option (((Int) ⊕ (Int × (List ByteArray) × Int)) ⊕ (Bool)) :=
  cond (decide (0 ≤ x485)) ((F_stack_Stack_string_Pop (⟨x68, x67⟩ : T_stack_Stack_string_)).bind fun y544 => (Sum.elim (fun y545 => F_retracelaw23_StackOrder_J25 p0 x485 y545.1 y545.2) (fun y546 => F_retracelaw23_StackOrder_J27 p0 x485 y546.1 y546.2.1 y546.2.2.l y546.2.2.most)) y544) ((F_retracelaw23_StackOrder_J19 p0 p1 x67 x68 x340 x341 x342 x343).map Sum.inr)
noncomputable def F_retracelaw23_StackOrder_J30 (x486 : Int) (y560 : ByteArray × Bool × T_stack_Stack_string_) (x563 : Bool) : Option (((Int) ⊕ (Int × (List ByteArray) × Int)) ⊕ (Bool)) :=
  cond x563 ((some false).map Sum.inr) (some (.inl (.inr (((w64 (x486 - 1)), y560.2.2.l, y560.2.2.most)))))
noncomputable def F_retracelaw23_StackOrder_L31 (p0 : (List ByteArray)) (p1 : ByteArray) (x340 : Bool) (x341 : (List ByteArray)) (x342 : Int) (x343 : (List ByteArray)) (x486 : Int) (x487 : (List ByteArray)) (x488 : Int) : Option (((Int) ⊕ (Int × (List ByteArray) × Int)) ⊕ (Bool)) :=
  cond (decide (0 ≤ x486)) ((F_stack_Stack_string_Pop_v2 (⟨x487, x488⟩ : T_stack_Stack_string_)).bind fun y560 => cond (!y560.2.1) (F_retracelaw23_StackOrder_J30 x486 y560 true) ((lAt p0 x486).bind fun y568 => F_retracelaw23_StackOrder_J30 x486 y560 (!(y560.1.toList == y568.toList)))) ((F_retracelaw23_StackOrder_J21 p0 p1 x340 x341 x342 x343 x487 x488).map Sum.inr)
noncomputable def F_retracelaw23_StackOrder_J18 (p0 : (List ByteArray)) (p1 : ByteArray) (x67 : Int) (x68 : (List ByteArray)) (x340 : Bool) (x341 : (List ByteArray)) (x342 : Int) (x343 : (List ByteArray)) : Option (Bool) :=
  Loop (Sum.elim (fun s : Int => F_retracelaw23_StackOrder_L29 p0 p1 x67 x68 x340 x341 x342 x343 s) (fun s : Int × (List ByteArray) × Int => F_retracelaw23_StackOrder_L31 p0 p1 x340 x341 x342 x343 s.1 s.2.1 s.2.2)) (.inl (w64 (((p0).length : Int) - 1)) : ((Int) ⊕ (Int × (List ByteArray) × Int)))
noncomputable def F_retracelaw23_StackOrder_J34 (x669 : Bool) : Option (Bool) :=
  some x669
noncomputable def F_retracelaw23_StackOrder_J33 (p0 : (List ByteArray)) (p1 : ByteArray) (x67 : Int) (x68 : (List ByteArray)) (x340 : Bool) (x343 : (List ByteArray)) (x571 : Int) (x572 : (List ByteArray)) : Option (Bool) :=
  cond x340 ((F_retraceref23_Same x343 p0).bind fun y671 => cond y671 ((F_stack_Stack_string_Len (⟨x572, x571⟩ : T_stack_Stack_string_)).bind fun y673 => cond (y673 == 1) ((F_stack_Stack_string_Len (⟨x68, x67⟩ : T_stack_Stack_string_)).bind fun y675 => cond (y675 == 0) ((F_stack_Stack_string_Push p1 (⟨x68, x67⟩ : T_stack_Stack_string_)).bind fun y677 => cond ((!y677.1) == (((p0).length : Int) == 0)) ((F_retracelaw23_live).bind fun y679 => F_retracelaw23_StackOrder_J34 y679) (F_retracelaw23_StackOrder_J34 false)) (F_retracelaw23_StackOrder_J34 false)) (F_retracelaw23_StackOrder_J34 false)) (F_retracelaw23_StackOrder_J34 false)) (F_retracelaw23_StackOrder_J34 false)
noncomputable def F_retracelaw23_StackOrder_J36 (x696 : Bool) : Option (Bool) :=
  some x696
noncomputable def F_retracelaw23_StackOrder_J35 (p0 : (List ByteArray)) (p1 : ByteArray) (x340 : Bool) (x343 : (List ByteArray)) (x571 : Int) (x572 : (List ByteArray)) (x680 : (List ByteArray)) (x681 : Int) : Option (Bool) :=
  cond x340 ((F_retraceref23_Same x343 p0).bind fun y698 => cond y698 ((F_stack_Stack_string_Len (⟨x572, x571⟩ : T_stack_Stack_string_)).bind fun y700 => cond (y700 == 1) ((F_stack_Stack_string_Len_v2 (⟨x680, x681⟩ : T_stack_Stack_string_)).bind fun y702 => cond (y702 == 0) ((F_stack_Stack_string_Push_v2 p1 (⟨x680, x681⟩ : T_stack_Stack_string_)).bind fun y704 => (Sum.elim (fun y705 => cond ((!y705) == (((p0).length : Int) == 0)) ((F_retracelaw23_live).bind fun y707 => F_retracelaw23_StackOrder_J36 y707) (F_retracelaw23_StackOrder_J36 false)) (fun y708 => cond ((!y708.1) == (((p0).length : Int) == 0)) ((F_retracelaw23_live).bind fun y710 => F_retracelaw23_StackOrder_J36 y710) (F_retracelaw23_StackOrder_J36 false))) y704) (F_retracelaw23_StackOrder_J36 false)) (F_retracelaw23_StackOrder_J36 false)) (F_retracelaw23_StackOrder_J36 false)) (F_retracelaw23_StackOrder_J36 false)
noncomputable def F_retracelaw23_StackOrder_J37 (x711 : Int) : Option (((Int) ⊕ (Int × (List ByteArray) × Int)) ⊕ (Bool)) :=
  some (.inl (.inl (w64 (x711 - 1))))
noncomputable def F_retracelaw23_StackOrder_J38 (x711 : Int) (x743 : (List ByteArray)) (x744 : Int) : Option (((Int) ⊕ (Int × (List ByteArray) × Int)) ⊕ (Bool)) :=
  some (.inl (.inr (((w64 (x711 - 1)), x743, x744))))
noncomputable def F_retracelaw23_StackOrder_J40 (x711 : Int) (x752 : Bool) : Option (((Int) ⊕ (Int × (List ByteArray) × Int)) ⊕ (Bool)) :=
  cond x752 ((some false).map Sum.inr) (F_retracelaw23_StackOrder_J37 x711)
noncomputable def F_retracelaw23_StackOrder_J39 (p0 : (List ByteArray)) (x711 : Int) (x748 : ByteArray) (x749 : Bool) : Option (((Int) ⊕ (Int × (List ByteArray) × Int)) ⊕ (Bool)) :=
  cond (!x749) (F_retracelaw23_StackOrder_J40 x711 true) ((lAt p0 x711).bind fun y757 => F_retracelaw23_StackOrder_J40 x711 (!(x748.toList == y757.toList)))
noncomputable def F_retracelaw23_StackOrder_J42 (x711 : Int) (x760 : (List ByteArray)) (x761 : Int) (x764 : Bool) : Option (((Int) ⊕ (Int × (List ByteArray) × Int)) ⊕ (Bool)) :=
  cond x764 ((some false).map Sum.inr) (F_retracelaw23_StackOrder_J38 x711 x760 x761)
noncomputable def F_retracelaw23_StackOrder_J41 (p0 : (List ByteArray)) (x711 : Int) (x758 : ByteArray) (x759 : Bool) (x760 : (List ByteArray)) (x761 : Int) : Option (((Int) ⊕ (Int × (List ByteArray) × Int)) ⊕ (Bool)) :=
  cond (!x759) (F_retracelaw23_StackOrder_J42 x711 x760 x761 true) ((lAt p0 x711).bind fun y769 => F_retracelaw23_StackOrder_J42 x711 x760 x761 (!(x758.toList == y769.toList)))
noncomputable def F_retracelaw23_StackOrder_L43 (p0 : (List ByteArray)) (p1 : ByteArray) (x67 : Int) (x68 : (List ByteArray)) (x340 : Bool) (x343 : (List ByteArray)) (x571 : Int) (x572 : (List ByteArray)) (x711 : Int) : Option (((Int) ⊕ (Int × (List ByteArray) × Int)) ⊕ (Bool)) :=
  cond (decide (0 ≤ x711)) ((F_stack_Stack_string_Pop (⟨x68, x67⟩ : T_stack_Stack_string_)).bind fun y770 => (Sum.elim (fun y771 => F_retracelaw23_StackOrder_J39 p0 x711 y771.1 y771.2) (fun y772 => F_retracelaw23_StackOrder_J41 p0 x711 y772.1 y772.2.1 y772.2.2.l y772.2.2.most)) y770) ((F_retracelaw23_StackOrder_J33 p0 p1 x67 x68 x340 x343 x571 x572).map Sum.inr)
noncomputable def F_retracelaw23_StackOrder_J44 (x712 : Int) (y786 : ByteArray × Bool × T_stack_Stack_string_) (x789 : Bool) : Option (((Int) ⊕ (Int × (List ByteArray) × Int)) ⊕ (Bool)) :=
  cond x789 ((some false).map Sum.inr) (some (.inl (.inr (((w64 (x712 - 1)), y786.2.2.l, y786.2.2.most)))))
noncomputable def F_retracelaw23_StackOrder_L45 (p0 : (List ByteArray)) (p1 : ByteArray) (x340 : Bool) (x343 : (List ByteArray)) (x571 : Int) (x572 : (List ByteArray)) (x712 : Int) (x713 : (List ByteArray)) (x714 : Int) : Option (((Int) ⊕ (Int × (List ByteArray) × Int)) ⊕ (Bool)) :=
  cond (decide (0 ≤ x712)) ((F_stack_Stack_string_Pop_v2 (⟨x713, x714⟩ : T_stack_Stack_string_)).bind fun y786 => cond (!y786.2.1) (F_retracelaw23_StackOrder_J44 x712 y786 true) ((lAt p0 x712).bind fun y794 => F_retracelaw23_StackOrder_J44 x712 y786 (!(y786.1.toList == y794.toList)))) ((F_retracelaw23_StackOrder_J35 p0 p1 x340 x343 x571 x572 x713 x714).map Sum.inr)
noncomputable def F_retracelaw23_StackOrder_J32 (p0 : (List ByteArray)) (p1 : ByteArray) (x67 : Int) (x68 : (List ByteArray)) (x340 : Bool) (x343 : (List ByteArray)) (x571 : Int) (x572 : (List ByteArray)) : Option (Bool) :=
  Loop (Sum.elim (fun s : Int => F_retracelaw23_StackOrder_L43 p0 p1 x67 x68 x340 x343 x571 x572 s) (fun s : Int × (List ByteArray) × Int => F_retracelaw23_StackOrder_L45 p0 p1 x340 x343 x571 x572 s.1 s.2.1 s.2.2)) (.inl (w64 (((p0).length : Int) - 1)) : ((Int) ⊕ (Int × (List ByteArray) × Int)))
noncomputable def F_retracelaw23_StackOrder_J17 (p0 : (List ByteArray)) (p1 : ByteArray) (x67 : Int) (x68 : (List ByteArray)) (x340 : Bool) (x341 : (List ByteArray)) (x342 : Int) (x343 : (List ByteArray)) : Option (Bool) :=
  (F_stack_Stack_string_Push_v2 p1 (⟨x341, x342⟩ : T_stack_Stack_string_)).bind fun y797 => (Sum.elim (fun y798 => F_retracelaw23_StackOrder_J18 p0 p1 x67 x68 x340 x341 x342 x343) (fun y799 => F_retracelaw23_StackOrder_J32 p0 p1 x67 x68 x340 x343 y799.2.most y799.2.l)) y797
noncomputable def F_retracelaw23_StackOrder_L46 (p0 : (List ByteArray)) (p1 : ByteArray) (x64 : Int) (x65 : Int) (x66 : (List ByteArray)) (x67 : Int) (x68 : (List ByteArray)) : Option ((Int × Int × (List ByteArray) × Int × (List ByteArray)) ⊕ (Bool)) :=
  cond (decide (x64 < ((p0).length : Int))) ((lAt p0 x64).bind fun y102 => (F_stack_Stack_string_Push y102 (⟨x66, x65⟩ : T_stack_Stack_string_)).bind fun y103 => cond (!y103.1) (F_retracelaw23_StackOrder_J2 x64 true y103.2.most y103.2.l x67 x68) ((lAt p0 x64).bind fun y105 => (F_stack_Stack_string_Push y105 (⟨x68, x67⟩ : T_stack_Stack_string_)).bind fun y106 => F_retracelaw23_StackOrder_J2 x64 (!y106.1) y103.2.most y103.2.l y106.2.most y106.2.l)) (((F_stack_Stack_string_Take ((p0).length : Int) (⟨x66, x65⟩ : T_stack_Stack_string_)).bind fun y800 => (Sum.elim (fun y801 => F_retracelaw23_StackOrder_J3 p0 p1 x65 x66 x67 x68 y801.2 y801.1) (fun y802 => F_retracelaw23_StackOrder_J17 p0 p1 x67 x68 y802.2.1 y802.2.2.l y802.2.2.most y802.1)) y800).map Sum.inr)
noncomputable def F_retracelaw23_StackOrder_J1 (p0 : (List ByteArray)) (p1 : ByteArray) (x11 : Bool) : Option (Bool) :=
  cond x11 ((F_retracelaw23_live).bind fun y14 => some y14) ((F_stack_New_string (w64 (((p0).length : Int) + 1))).bind fun y17 => (F_stack_New_string ((p0).length : Int)).bind fun y18 => Loop (fun s : (Int × Int × (List ByteArray) × Int × (List ByteArray)) => F_retracelaw23_StackOrder_L46 p0 p1 s.1 s.2.1 s.2.2.1 s.2.2.2.1 s.2.2.2.2) (0, y17.most, ([] : (List ByteArray)), y18.most, ([] : (List ByteArray))))
noncomputable def F_retracelaw23_StackOrder (p0 : (List ByteArray)) (p1 : ByteArray) : Option (Bool) :=
  cond (decide (100 < ((p0).length : Int))) (F_retracelaw23_StackOrder_J1 p0 p1 true) ((F_retracelaw23_live).bind fun y804 => F_retracelaw23_StackOrder_J1 p0 p1 (!y804))

theorem mixedOrd : Try.prog.follows .mixedOrders = true := by kernel_rfl
end Go.Ab
