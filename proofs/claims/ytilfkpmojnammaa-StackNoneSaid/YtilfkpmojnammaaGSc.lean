import Derived.Test.YtilfkpmojnammaaAbLib
import Derived.Test.YtilfkpmojnammaaProg
namespace Go.Ab
open Go.Proofs
set_option linter.unusedVariables false
structure T_stack_Stack_string_ where
  l : (List ByteArray)
  most : Int
abbrev T_stack_Stack_string_.enc (x : T_stack_Stack_string_) : List D := [.list false (x.l).length (encL eStr x.l), .int .i64 x.most]
theorem T_stack_Stack_string_.enc_len (x : T_stack_Stack_string_) : (T_stack_Stack_string_.enc x).length = 2 := rfl
abbrev T_stack_Stack_string_.pvs (x : T_stack_Stack_string_) : List PV := [lv eStr x.l, i64 x.most]
structure T_stack_Stack_int_ where
  l : (List Int)
  most : Int
abbrev T_stack_Stack_int_.enc (x : T_stack_Stack_int_) : List D := [.list false (x.l).length (encL (eInt .i64) x.l), .int .i64 x.most]
theorem T_stack_Stack_int_.enc_len (x : T_stack_Stack_int_) : (T_stack_Stack_int_.enc x).length = 2 := rfl
abbrev T_stack_Stack_int_.pvs (x : T_stack_Stack_int_) : List PV := [lv (eInt .i64) x.l, i64 x.most]

/- stack_New_string -/
noncomputable def F_stack_New_string (p0 : Int) : Option (T_stack_Stack_string_) :=
  some (⟨([] : (List ByteArray)), (if 0 > p0 then 0 else p0)⟩ : T_stack_Stack_string_)
/- stack_Stack_string_Len -/
noncomputable def F_stack_Stack_string_Len  : Option (Int) :=
  some 0
/- stack_Stack_string_Take -/
noncomputable def F_stack_Stack_string_Take (p1 : Int) : Option ((List ByteArray) × Bool) :=
  (F_stack_Stack_string_Len).bind fun y2 => some (([] : (List ByteArray)), false)
/- stack_Stack_string_Pop -/
noncomputable def F_stack_Stack_string_Pop  : Option (ByteArray × Bool) :=
  (F_stack_Stack_string_Take 1).bind fun y2 => cond (!y2.2) (some ((⟨#[]⟩ : ByteArray), false)) ((lAt ([]) 0).bind fun y6 => some (y6, true))
/- stack_Stack_string_Room -/
noncomputable def F_stack_Stack_string_Room  : Option (Int) :=
  some 0
/- stack_Stack_string_Push -/
noncomputable def F_stack_Stack_string_Push (p1 : ByteArray) : Option (Bool) :=
  (F_stack_Stack_string_Room).bind fun y5 => cond (y5 == 0) (some false) (none)
/- stack_Stack_string_Len_v2 -/
noncomputable def F_stack_Stack_string_Len_v2 (o0 : T_stack_Stack_string_) : Option (Int) :=
  some ((o0.l).length : Int)
/- slices_Clone_string_string -/
noncomputable def F_slices_Clone_string_string (p0 : (List ByteArray)) : Option ((List ByteArray)) :=
  grd (((([] : List ByteArray)).length + (p0).length) * 16 ≤ 140737488355328) <| some (([] : List ByteArray) ++ p0)
/- stack_Stack_string_Take_v2 -/
noncomputable def F_stack_Stack_string_Take_v2_J1 (p1 : Int) (o0 : T_stack_Stack_string_) (y2 : Int) (x8 : Bool) : Option (((List ByteArray) × Bool) ⊕ ((List ByteArray) × Bool × T_stack_Stack_string_)) :=
  cond x8 (some (.inl (([] : List ByteArray), false))) (grd ((0 : Int) ≤ (w64 (y2 - p1)) ∧ (w64 (y2 - p1)) ≤ ((o0.l).length : Int) ∧ ((o0.l).length : Int) ≤ ((o0.l).length : Int)) <| (F_slices_Clone_string_string (lCut o0.l (w64 (y2 - p1)) ((o0.l).length : Int))).bind fun y13 => grd ((0 : Int) ≤ 0 ∧ 0 ≤ (w64 (y2 - p1)) ∧ (w64 (y2 - p1)) ≤ ((o0.l).length : Int) ∧ (w64 (y2 - p1)) = (w64 (y2 - p1))) <| some (.inr (y13, true, (⟨(lCut o0.l 0 (w64 (y2 - p1))), o0.most⟩ : T_stack_Stack_string_))))
noncomputable def F_stack_Stack_string_Take_v2 (p1 : Int) (o0 : T_stack_Stack_string_) : Option (((List ByteArray) × Bool) ⊕ ((List ByteArray) × Bool × T_stack_Stack_string_)) :=
  (F_stack_Stack_string_Len_v2 o0).bind fun y2 => cond (decide (p1 < 0)) (F_stack_Stack_string_Take_v2_J1 p1 o0 y2 true) (F_stack_Stack_string_Take_v2_J1 p1 o0 y2 (decide ((w64 (y2 - p1)) < 0)))
/- stack_Stack_string_Pop_v2 -/
noncomputable def F_stack_Stack_string_Pop_v2_J1 (x4 : Bool) (x5 : (List ByteArray)) : Option ((ByteArray × Bool) ⊕ (ByteArray × Bool × T_stack_Stack_string_)) :=
  cond (!x4) (some (.inl ((⟨#[]⟩ : ByteArray), false))) ((lAt x5 0).bind fun y9 => some (.inl (y9, true)))
noncomputable def F_stack_Stack_string_Pop_v2_J2 (x10 : Bool) (x11 : (List ByteArray)) (x12 : Int) (x13 : (List ByteArray)) : Option ((ByteArray × Bool) ⊕ (ByteArray × Bool × T_stack_Stack_string_)) :=
  cond (!x10) (some (.inr ((⟨#[]⟩ : ByteArray), false, (⟨x11, x12⟩ : T_stack_Stack_string_)))) ((lAt x13 0).bind fun y17 => some (.inr (y17, true, (⟨x11, x12⟩ : T_stack_Stack_string_))))
noncomputable def F_stack_Stack_string_Pop_v2 (o0 : T_stack_Stack_string_) : Option ((ByteArray × Bool) ⊕ (ByteArray × Bool × T_stack_Stack_string_)) :=
  (F_stack_Stack_string_Take_v2 1 o0).bind fun y18 => (Sum.elim (fun y19 => F_stack_Stack_string_Pop_v2_J1 y19.2 y19.1) (fun y20 => F_stack_Stack_string_Pop_v2_J2 y20.2.1 y20.2.2.l y20.2.2.most y20.1)) y18
/- stack_Stack_string_Room_v2 -/
noncomputable def F_stack_Stack_string_Room_v2 (o0 : T_stack_Stack_string_) : Option (Int) :=
  some (w64 (o0.most - ((o0.l).length : Int)))
/- stack_Stack_string_Push_v2 -/
noncomputable def F_stack_Stack_string_Push_v2 (p1 : ByteArray) (o0 : T_stack_Stack_string_) : Option (Bool × T_stack_Stack_string_) :=
  (F_stack_Stack_string_Room_v2 o0).bind fun y5 => cond (y5 == 0) (some (false, o0)) (grd (((o0.l).length + ([p1]).length) * 16 ≤ 140737488355328) <| some (true, (⟨(o0.l ++ [p1]), o0.most⟩ : T_stack_Stack_string_)))
/- stack_Stack_string_Room_v3 -/
noncomputable def F_stack_Stack_string_Room_v3 (o0 : T_stack_Stack_string_) : Option (Int) :=
  some (w64 (o0.most - ((o0.l).length : Int)))
/- stack_Stack_string_Push_v3 -/
noncomputable def F_stack_Stack_string_Push_v3 (p1 : ByteArray) (o0 : T_stack_Stack_string_) : Option ((Bool) ⊕ (Bool × T_stack_Stack_string_)) :=
  (F_stack_Stack_string_Room_v3 o0).bind fun y5 => cond (y5 == 0) (some (.inl false)) (grd ((0 < ([p1]).length ∨ (o0.l).length = 0) ∧ ((o0.l).length + ([p1]).length) * 16 ≤ 140737488355328) <| some (.inr (true, (⟨(o0.l ++ [p1]), o0.most⟩ : T_stack_Stack_string_))))
/- stack_Stack_string_Len_v3 -/
noncomputable def F_stack_Stack_string_Len_v3 (o0 : T_stack_Stack_string_) : Option (Int) :=
  some ((o0.l).length : Int)
/- stack_Stack_string_Take_v3 -/
noncomputable def F_stack_Stack_string_Take_v3_J1 (p1 : Int) (o0 : T_stack_Stack_string_) (y2 : Int) (x8 : Bool) : Option ((List ByteArray) × Bool × T_stack_Stack_string_) :=
  cond x8 (some (([] : List ByteArray), false, o0)) (grd ((0 : Int) ≤ (w64 (y2 - p1)) ∧ (w64 (y2 - p1)) ≤ ((o0.l).length : Int) ∧ ((o0.l).length : Int) ≤ ((o0.l).length : Int)) <| (F_slices_Clone_string_string (lCut o0.l (w64 (y2 - p1)) ((o0.l).length : Int))).bind fun y13 => grd ((0 : Int) ≤ 0 ∧ 0 ≤ (w64 (y2 - p1)) ∧ (w64 (y2 - p1)) ≤ ((o0.l).length : Int) ∧ (w64 (y2 - p1)) = (w64 (y2 - p1))) <| some (y13, true, (⟨(lCut o0.l 0 (w64 (y2 - p1))), o0.most⟩ : T_stack_Stack_string_)))
noncomputable def F_stack_Stack_string_Take_v3 (p1 : Int) (o0 : T_stack_Stack_string_) : Option ((List ByteArray) × Bool × T_stack_Stack_string_) :=
  (F_stack_Stack_string_Len_v3 o0).bind fun y2 => cond (decide (p1 < 0)) (F_stack_Stack_string_Take_v3_J1 p1 o0 y2 true) (F_stack_Stack_string_Take_v3_J1 p1 o0 y2 (decide ((w64 (y2 - p1)) < 0)))
/- stack_New_int -/
noncomputable def F_stack_New_int (p0 : Int) : Option (T_stack_Stack_int_) :=
  some (⟨([] : (List Int)), (if 0 > p0 then 0 else p0)⟩ : T_stack_Stack_int_)
/- stack_Stack_int_Room -/
noncomputable def F_stack_Stack_int_Room (o0 : T_stack_Stack_int_) : Option (Int) :=
  some (w64 (o0.most - ((o0.l).length : Int)))
/- stack_Stack_int_Push -/
noncomputable def F_stack_Stack_int_Push (p1 : Int) (o0 : T_stack_Stack_int_) : Option (Bool × T_stack_Stack_int_) :=
  (F_stack_Stack_int_Room o0).bind fun y5 => cond (y5 == 0) (some (false, o0)) (grd (((o0.l).length + ([p1]).length) * 8 ≤ 140737488355328) <| some (true, (⟨(o0.l ++ [p1]), o0.most⟩ : T_stack_Stack_int_)))
/- stack_Stack_int_Len -/
noncomputable def F_stack_Stack_int_Len (o0 : T_stack_Stack_int_) : Option (Int) :=
  some ((o0.l).length : Int)
/- slices_Clone_int_int -/
noncomputable def F_slices_Clone_int_int (p0 : (List Int)) : Option ((List Int)) :=
  grd (((([] : List Int)).length + (p0).length) * 8 ≤ 140737488355328) <| some (([] : List Int) ++ p0)
/- stack_Stack_int_Take -/
noncomputable def F_stack_Stack_int_Take_J1 (p1 : Int) (o0 : T_stack_Stack_int_) (y2 : Int) (x8 : Bool) : Option (((List Int) × Bool) ⊕ ((List Int) × Bool × T_stack_Stack_int_)) :=
  cond x8 (some (.inl (([] : List Int), false))) (grd ((0 : Int) ≤ (w64 (y2 - p1)) ∧ (w64 (y2 - p1)) ≤ ((o0.l).length : Int) ∧ ((o0.l).length : Int) ≤ ((o0.l).length : Int)) <| (F_slices_Clone_int_int (lCut o0.l (w64 (y2 - p1)) ((o0.l).length : Int))).bind fun y13 => grd ((0 : Int) ≤ 0 ∧ 0 ≤ (w64 (y2 - p1)) ∧ (w64 (y2 - p1)) ≤ ((o0.l).length : Int) ∧ (w64 (y2 - p1)) = (w64 (y2 - p1))) <| some (.inr (y13, true, (⟨(lCut o0.l 0 (w64 (y2 - p1))), o0.most⟩ : T_stack_Stack_int_))))
noncomputable def F_stack_Stack_int_Take (p1 : Int) (o0 : T_stack_Stack_int_) : Option (((List Int) × Bool) ⊕ ((List Int) × Bool × T_stack_Stack_int_)) :=
  (F_stack_Stack_int_Len o0).bind fun y2 => cond (decide (p1 < 0)) (F_stack_Stack_int_Take_J1 p1 o0 y2 true) (F_stack_Stack_int_Take_J1 p1 o0 y2 (decide ((w64 (y2 - p1)) < 0)))
/- stack_Stack_int_Len_v2 -/
noncomputable def F_stack_Stack_int_Len_v2 (o0 : T_stack_Stack_int_) : Option (Int) :=
  some ((o0.l).length : Int)
/- stack_Stack_int_Room_v2 -/
noncomputable def F_stack_Stack_int_Room_v2 (o0 : T_stack_Stack_int_) : Option (Int) :=
  some (w64 (o0.most - ((o0.l).length : Int)))
/- retracelaw23_live -/
noncomputable def F_retracelaw23_live_J2 (x24 : Bool) : Option (Bool) :=
  some x24
noncomputable def F_retracelaw23_live_J1 (y6 : Bool × T_stack_Stack_int_) (y7 : Bool × T_stack_Stack_int_) (y8 : Bool × T_stack_Stack_int_) (x12 : Bool) (x13 : (List Int)) : Option (Bool) :=
  cond y6.1 (cond y7.1 (cond (!y8.1) (cond x12 (cond (((x13).length : Int) == 2) ((lAt x13 0).bind fun y30 => cond (y30 == 1) ((F_stack_Stack_int_Len y8.2).bind fun y32 => cond (y32 == 0) ((F_stack_Stack_int_Room y8.2).bind fun y34 => F_retracelaw23_live_J2 (y34 == 2)) (F_retracelaw23_live_J2 false)) (F_retracelaw23_live_J2 false)) (F_retracelaw23_live_J2 false)) (F_retracelaw23_live_J2 false)) (F_retracelaw23_live_J2 false)) (F_retracelaw23_live_J2 false)) (F_retracelaw23_live_J2 false)
noncomputable def F_retracelaw23_live_J4 (x49 : Bool) : Option (Bool) :=
  some x49
noncomputable def F_retracelaw23_live_J3 (y6 : Bool × T_stack_Stack_int_) (y7 : Bool × T_stack_Stack_int_) (y8 : Bool × T_stack_Stack_int_) (x35 : Bool) (x36 : (List Int)) (x37 : Int) (x38 : (List Int)) : Option (Bool) :=
  cond y6.1 (cond y7.1 (cond (!y8.1) (cond x35 (cond (((x38).length : Int) == 2) ((lAt x38 0).bind fun y55 => cond (y55 == 1) ((F_stack_Stack_int_Len_v2 (⟨x36, x37⟩ : T_stack_Stack_int_)).bind fun y57 => cond (y57 == 0) ((F_stack_Stack_int_Room_v2 (⟨x36, x37⟩ : T_stack_Stack_int_)).bind fun y59 => F_retracelaw23_live_J4 (y59 == 2)) (F_retracelaw23_live_J4 false)) (F_retracelaw23_live_J4 false)) (F_retracelaw23_live_J4 false)) (F_retracelaw23_live_J4 false)) (F_retracelaw23_live_J4 false)) (F_retracelaw23_live_J4 false)) (F_retracelaw23_live_J4 false)
noncomputable def F_retracelaw23_live  : Option (Bool) :=
  (F_stack_New_int 2).bind fun y2 => (F_stack_Stack_int_Push 1 (⟨([] : List Int), y2.most⟩ : T_stack_Stack_int_)).bind fun y6 => (F_stack_Stack_int_Push 2 y6.2).bind fun y7 => (F_stack_Stack_int_Push 3 y7.2).bind fun y8 => (F_stack_Stack_int_Take 2 y8.2).bind fun y60 => (Sum.elim (fun y61 => F_retracelaw23_live_J1 y6 y7 y8 y61.2 y61.1) (fun y62 => F_retracelaw23_live_J3 y6 y7 y8 y62.2.1 y62.2.2.l y62.2.2.most y62.1)) y60
/- retracelaw23_StackNone -/
noncomputable def F_retracelaw23_StackNone_J1  : Option (Bool) :=
  (F_retracelaw23_live).bind fun y878 => some y878
noncomputable def F_retracelaw23_StackNone_J4 (x1189 : Int) (x1190 : (List ByteArray)) : Option (Bool) :=
  F_retracelaw23_StackNone_J1
noncomputable def F_retracelaw23_StackNone_J5 (x1191 : (List ByteArray)) (x1192 : Int) : Option (Bool) :=
  F_retracelaw23_StackNone_J1
noncomputable def F_retracelaw23_StackNone_J8 (x1212 : Bool) (x1213 : Int) (x1214 : (List ByteArray)) : Option (Bool) :=
  cond x1212 (some false) (F_retracelaw23_StackNone_J4 x1213 x1214)
noncomputable def F_retracelaw23_StackNone_J7 (p0 : ByteArray) (y4 : T_stack_Stack_string_) (x1196 : ByteArray) (x1197 : Bool) (x1201 : Bool) (x1202 : (List ByteArray)) : Option (Bool) :=
  (F_stack_Stack_string_Push_v2 p0 (⟨([] : List ByteArray), y4.most⟩ : T_stack_Stack_string_)).bind fun y1216 => cond y1216.1 (F_retracelaw23_StackNone_J8 true y1216.2.most y1216.2.l) (cond (!(x1196.toList == (⟨#[]⟩ : ByteArray).toList)) (F_retracelaw23_StackNone_J8 true y1216.2.most y1216.2.l) (cond x1197 (F_retracelaw23_StackNone_J8 true y1216.2.most y1216.2.l) (cond (((x1202).length : Int) != 0) (F_retracelaw23_StackNone_J8 true y1216.2.most y1216.2.l) (cond x1201 (F_retracelaw23_StackNone_J8 true y1216.2.most y1216.2.l) ((F_stack_Stack_string_Len_v2 y1216.2).bind fun y1222 => cond (y1222 != 0) (F_retracelaw23_StackNone_J8 true y1216.2.most y1216.2.l) ((F_stack_Stack_string_Room_v2 y1216.2).bind fun y1224 => F_retracelaw23_StackNone_J8 (y1224 != 0) y1216.2.most y1216.2.l))))))
noncomputable def F_retracelaw23_StackNone_J10 (x1226 : (List ByteArray)) (x1227 : Int) (x1248 : Bool) : Option (Bool) :=
  cond x1248 (some false) (F_retracelaw23_StackNone_J5 x1226 x1227)
noncomputable def F_retracelaw23_StackNone_J11 (x1250 : Bool) (x1251 : Int) (x1252 : (List ByteArray)) : Option (Bool) :=
  cond x1250 (some false) (F_retracelaw23_StackNone_J4 x1251 x1252)
noncomputable def F_retracelaw23_StackNone_J9 (p0 : ByteArray) (x1196 : ByteArray) (x1197 : Bool) (x1225 : Bool) (x1226 : (List ByteArray)) (x1227 : Int) (x1228 : (List ByteArray)) : Option (Bool) :=
  (F_stack_Stack_string_Push_v3 p0 (⟨x1226, x1227⟩ : T_stack_Stack_string_)).bind fun y1254 => (Sum.elim (fun y1255 => cond y1255 (F_retracelaw23_StackNone_J10 x1226 x1227 true) (cond (!(x1196.toList == (⟨#[]⟩ : ByteArray).toList)) (F_retracelaw23_StackNone_J10 x1226 x1227 true) (cond x1197 (F_retracelaw23_StackNone_J10 x1226 x1227 true) (cond (((x1228).length : Int) != 0) (F_retracelaw23_StackNone_J10 x1226 x1227 true) (cond x1225 (F_retracelaw23_StackNone_J10 x1226 x1227 true) ((F_stack_Stack_string_Len_v3 (⟨x1226, x1227⟩ : T_stack_Stack_string_)).bind fun y1261 => cond (y1261 != 0) (F_retracelaw23_StackNone_J10 x1226 x1227 true) ((F_stack_Stack_string_Room_v3 (⟨x1226, x1227⟩ : T_stack_Stack_string_)).bind fun y1263 => F_retracelaw23_StackNone_J10 x1226 x1227 (y1263 != 0)))))))) (fun y1264 => cond y1264.1 (F_retracelaw23_StackNone_J11 true y1264.2.most y1264.2.l) (cond (!(x1196.toList == (⟨#[]⟩ : ByteArray).toList)) (F_retracelaw23_StackNone_J11 true y1264.2.most y1264.2.l) (cond x1197 (F_retracelaw23_StackNone_J11 true y1264.2.most y1264.2.l) (cond (((x1228).length : Int) != 0) (F_retracelaw23_StackNone_J11 true y1264.2.most y1264.2.l) (cond x1225 (F_retracelaw23_StackNone_J11 true y1264.2.most y1264.2.l) ((F_stack_Stack_string_Len_v2 y1264.2).bind fun y1270 => cond (y1270 != 0) (F_retracelaw23_StackNone_J11 true y1264.2.most y1264.2.l) ((F_stack_Stack_string_Room_v2 y1264.2).bind fun y1272 => F_retracelaw23_StackNone_J11 (y1272 != 0) y1264.2.most y1264.2.l)))))))) y1254
noncomputable def F_retracelaw23_StackNone_J6 (p0 : ByteArray) (p1 : Int) (y4 : T_stack_Stack_string_) (x1196 : ByteArray) (x1197 : Bool) : Option (Bool) :=
  (F_stack_Stack_string_Take_v2 (if 1 > p1 then 1 else p1) (⟨([] : List ByteArray), y4.most⟩ : T_stack_Stack_string_)).bind fun y1273 => (Sum.elim (fun y1274 => F_retracelaw23_StackNone_J7 p0 y4 x1196 x1197 y1274.2 y1274.1) (fun y1275 => F_retracelaw23_StackNone_J9 p0 x1196 x1197 y1275.2.1 y1275.2.2.l y1275.2.2.most y1275.1)) y1273
noncomputable def F_retracelaw23_StackNone_J13 (y1281 : (List ByteArray) × Bool × T_stack_Stack_string_) (x1301 : Bool) : Option (Bool) :=
  cond x1301 (some false) (F_retracelaw23_StackNone_J5 y1281.2.2.l y1281.2.2.most)
noncomputable def F_retracelaw23_StackNone_J14 (x1303 : Bool) (x1304 : Int) (x1305 : (List ByteArray)) : Option (Bool) :=
  cond x1303 (some false) (F_retracelaw23_StackNone_J4 x1304 x1305)
noncomputable def F_retracelaw23_StackNone_J12 (p0 : ByteArray) (p1 : Int) (x1276 : ByteArray) (x1277 : Bool) (x1278 : (List ByteArray)) (x1279 : Int) : Option (Bool) :=
  (F_stack_Stack_string_Take_v3 (if 1 > p1 then 1 else p1) (⟨x1278, x1279⟩ : T_stack_Stack_string_)).bind fun y1281 => (F_stack_Stack_string_Push_v3 p0 y1281.2.2).bind fun y1307 => (Sum.elim (fun y1308 => cond y1308 (F_retracelaw23_StackNone_J13 y1281 true) (cond (!(x1276.toList == (⟨#[]⟩ : ByteArray).toList)) (F_retracelaw23_StackNone_J13 y1281 true) (cond x1277 (F_retracelaw23_StackNone_J13 y1281 true) (cond (((y1281.1).length : Int) != 0) (F_retracelaw23_StackNone_J13 y1281 true) (cond y1281.2.1 (F_retracelaw23_StackNone_J13 y1281 true) ((F_stack_Stack_string_Len_v3 y1281.2.2).bind fun y1314 => cond (y1314 != 0) (F_retracelaw23_StackNone_J13 y1281 true) ((F_stack_Stack_string_Room_v3 y1281.2.2).bind fun y1316 => F_retracelaw23_StackNone_J13 y1281 (y1316 != 0)))))))) (fun y1317 => cond y1317.1 (F_retracelaw23_StackNone_J14 true y1317.2.most y1317.2.l) (cond (!(x1276.toList == (⟨#[]⟩ : ByteArray).toList)) (F_retracelaw23_StackNone_J14 true y1317.2.most y1317.2.l) (cond x1277 (F_retracelaw23_StackNone_J14 true y1317.2.most y1317.2.l) (cond (((y1281.1).length : Int) != 0) (F_retracelaw23_StackNone_J14 true y1317.2.most y1317.2.l) (cond y1281.2.1 (F_retracelaw23_StackNone_J14 true y1317.2.most y1317.2.l) ((F_stack_Stack_string_Len_v2 y1317.2).bind fun y1323 => cond (y1323 != 0) (F_retracelaw23_StackNone_J14 true y1317.2.most y1317.2.l) ((F_stack_Stack_string_Room_v2 y1317.2).bind fun y1325 => F_retracelaw23_StackNone_J14 (y1325 != 0) y1317.2.most y1317.2.l)))))))) y1307
noncomputable def F_retracelaw23_StackNone_J3 (p0 : ByteArray) (p1 : Int) (y4 : T_stack_Stack_string_) (x1051 : Int) (x1052 : (List ByteArray)) : Option (Bool) :=
  (F_stack_Stack_string_Pop_v2 (⟨([] : List ByteArray), y4.most⟩ : T_stack_Stack_string_)).bind fun y1326 => (Sum.elim (fun y1327 => F_retracelaw23_StackNone_J6 p0 p1 y4 y1327.1 y1327.2) (fun y1328 => F_retracelaw23_StackNone_J12 p0 p1 y1328.1 y1328.2.1 y1328.2.2.l y1328.2.2.most)) y1326
noncomputable def F_retracelaw23_StackNone_J16 (x1467 : Int) (x1468 : (List ByteArray)) : Option (Bool) :=
  F_retracelaw23_StackNone_J1
noncomputable def F_retracelaw23_StackNone_J17 (x1469 : (List ByteArray)) (x1470 : Int) : Option (Bool) :=
  F_retracelaw23_StackNone_J1
noncomputable def F_retracelaw23_StackNone_J20 (x1490 : Bool) (x1491 : Int) (x1492 : (List ByteArray)) : Option (Bool) :=
  cond x1490 (some false) (F_retracelaw23_StackNone_J16 x1491 x1492)
noncomputable def F_retracelaw23_StackNone_J19 (p0 : ByteArray) (y4 : T_stack_Stack_string_) (x1474 : ByteArray) (x1475 : Bool) (x1479 : Bool) (x1480 : (List ByteArray)) : Option (Bool) :=
  (F_stack_Stack_string_Push_v2 p0 (⟨([] : List ByteArray), y4.most⟩ : T_stack_Stack_string_)).bind fun y1494 => cond y1494.1 (F_retracelaw23_StackNone_J20 true y1494.2.most y1494.2.l) (cond (!(x1474.toList == (⟨#[]⟩ : ByteArray).toList)) (F_retracelaw23_StackNone_J20 true y1494.2.most y1494.2.l) (cond x1475 (F_retracelaw23_StackNone_J20 true y1494.2.most y1494.2.l) (cond (((x1480).length : Int) != 0) (F_retracelaw23_StackNone_J20 true y1494.2.most y1494.2.l) (cond x1479 (F_retracelaw23_StackNone_J20 true y1494.2.most y1494.2.l) ((F_stack_Stack_string_Len_v2 y1494.2).bind fun y1500 => cond (y1500 != 0) (F_retracelaw23_StackNone_J20 true y1494.2.most y1494.2.l) ((F_stack_Stack_string_Room_v2 y1494.2).bind fun y1502 => F_retracelaw23_StackNone_J20 (y1502 != 0) y1494.2.most y1494.2.l))))))
noncomputable def F_retracelaw23_StackNone_J22 (x1504 : (List ByteArray)) (x1505 : Int) (x1526 : Bool) : Option (Bool) :=
  cond x1526 (some false) (F_retracelaw23_StackNone_J17 x1504 x1505)
noncomputable def F_retracelaw23_StackNone_J23 (x1528 : Bool) (x1529 : Int) (x1530 : (List ByteArray)) : Option (Bool) :=
  cond x1528 (some false) (F_retracelaw23_StackNone_J16 x1529 x1530)
noncomputable def F_retracelaw23_StackNone_J21 (p0 : ByteArray) (x1474 : ByteArray) (x1475 : Bool) (x1503 : Bool) (x1504 : (List ByteArray)) (x1505 : Int) (x1506 : (List ByteArray)) : Option (Bool) :=
  (F_stack_Stack_string_Push_v3 p0 (⟨x1504, x1505⟩ : T_stack_Stack_string_)).bind fun y1532 => (Sum.elim (fun y1533 => cond y1533 (F_retracelaw23_StackNone_J22 x1504 x1505 true) (cond (!(x1474.toList == (⟨#[]⟩ : ByteArray).toList)) (F_retracelaw23_StackNone_J22 x1504 x1505 true) (cond x1475 (F_retracelaw23_StackNone_J22 x1504 x1505 true) (cond (((x1506).length : Int) != 0) (F_retracelaw23_StackNone_J22 x1504 x1505 true) (cond x1503 (F_retracelaw23_StackNone_J22 x1504 x1505 true) ((F_stack_Stack_string_Len_v3 (⟨x1504, x1505⟩ : T_stack_Stack_string_)).bind fun y1539 => cond (y1539 != 0) (F_retracelaw23_StackNone_J22 x1504 x1505 true) ((F_stack_Stack_string_Room_v3 (⟨x1504, x1505⟩ : T_stack_Stack_string_)).bind fun y1541 => F_retracelaw23_StackNone_J22 x1504 x1505 (y1541 != 0)))))))) (fun y1542 => cond y1542.1 (F_retracelaw23_StackNone_J23 true y1542.2.most y1542.2.l) (cond (!(x1474.toList == (⟨#[]⟩ : ByteArray).toList)) (F_retracelaw23_StackNone_J23 true y1542.2.most y1542.2.l) (cond x1475 (F_retracelaw23_StackNone_J23 true y1542.2.most y1542.2.l) (cond (((x1506).length : Int) != 0) (F_retracelaw23_StackNone_J23 true y1542.2.most y1542.2.l) (cond x1503 (F_retracelaw23_StackNone_J23 true y1542.2.most y1542.2.l) ((F_stack_Stack_string_Len_v2 y1542.2).bind fun y1548 => cond (y1548 != 0) (F_retracelaw23_StackNone_J23 true y1542.2.most y1542.2.l) ((F_stack_Stack_string_Room_v2 y1542.2).bind fun y1550 => F_retracelaw23_StackNone_J23 (y1550 != 0) y1542.2.most y1542.2.l)))))))) y1532
noncomputable def F_retracelaw23_StackNone_J18 (p0 : ByteArray) (p1 : Int) (y4 : T_stack_Stack_string_) (x1474 : ByteArray) (x1475 : Bool) : Option (Bool) :=
  (F_stack_Stack_string_Take_v2 (if 1 > p1 then 1 else p1) (⟨([] : List ByteArray), y4.most⟩ : T_stack_Stack_string_)).bind fun y1551 => (Sum.elim (fun y1552 => F_retracelaw23_StackNone_J19 p0 y4 x1474 x1475 y1552.2 y1552.1) (fun y1553 => F_retracelaw23_StackNone_J21 p0 x1474 x1475 y1553.2.1 y1553.2.2.l y1553.2.2.most y1553.1)) y1551
noncomputable def F_retracelaw23_StackNone_J25 (y1559 : (List ByteArray) × Bool × T_stack_Stack_string_) (x1579 : Bool) : Option (Bool) :=
  cond x1579 (some false) (F_retracelaw23_StackNone_J17 y1559.2.2.l y1559.2.2.most)
noncomputable def F_retracelaw23_StackNone_J26 (x1581 : Bool) (x1582 : Int) (x1583 : (List ByteArray)) : Option (Bool) :=
  cond x1581 (some false) (F_retracelaw23_StackNone_J16 x1582 x1583)
noncomputable def F_retracelaw23_StackNone_J24 (p0 : ByteArray) (p1 : Int) (x1554 : ByteArray) (x1555 : Bool) (x1556 : (List ByteArray)) (x1557 : Int) : Option (Bool) :=
  (F_stack_Stack_string_Take_v3 (if 1 > p1 then 1 else p1) (⟨x1556, x1557⟩ : T_stack_Stack_string_)).bind fun y1559 => (F_stack_Stack_string_Push_v3 p0 y1559.2.2).bind fun y1585 => (Sum.elim (fun y1586 => cond y1586 (F_retracelaw23_StackNone_J25 y1559 true) (cond (!(x1554.toList == (⟨#[]⟩ : ByteArray).toList)) (F_retracelaw23_StackNone_J25 y1559 true) (cond x1555 (F_retracelaw23_StackNone_J25 y1559 true) (cond (((y1559.1).length : Int) != 0) (F_retracelaw23_StackNone_J25 y1559 true) (cond y1559.2.1 (F_retracelaw23_StackNone_J25 y1559 true) ((F_stack_Stack_string_Len_v3 y1559.2.2).bind fun y1592 => cond (y1592 != 0) (F_retracelaw23_StackNone_J25 y1559 true) ((F_stack_Stack_string_Room_v3 y1559.2.2).bind fun y1594 => F_retracelaw23_StackNone_J25 y1559 (y1594 != 0)))))))) (fun y1595 => cond y1595.1 (F_retracelaw23_StackNone_J26 true y1595.2.most y1595.2.l) (cond (!(x1554.toList == (⟨#[]⟩ : ByteArray).toList)) (F_retracelaw23_StackNone_J26 true y1595.2.most y1595.2.l) (cond x1555 (F_retracelaw23_StackNone_J26 true y1595.2.most y1595.2.l) (cond (((y1559.1).length : Int) != 0) (F_retracelaw23_StackNone_J26 true y1595.2.most y1595.2.l) (cond y1559.2.1 (F_retracelaw23_StackNone_J26 true y1595.2.most y1595.2.l) ((F_stack_Stack_string_Len_v2 y1595.2).bind fun y1601 => cond (y1601 != 0) (F_retracelaw23_StackNone_J26 true y1595.2.most y1595.2.l) ((F_stack_Stack_string_Room_v2 y1595.2).bind fun y1603 => F_retracelaw23_StackNone_J26 (y1603 != 0) y1595.2.most y1595.2.l)))))))) y1585
noncomputable def F_retracelaw23_StackNone_J15 (p0 : ByteArray) (p1 : Int) (y4 : T_stack_Stack_string_) (x1329 : (List ByteArray)) (x1330 : Int) : Option (Bool) :=
  (F_stack_Stack_string_Pop_v2 (⟨([] : List ByteArray), y4.most⟩ : T_stack_Stack_string_)).bind fun y1604 => (Sum.elim (fun y1605 => F_retracelaw23_StackNone_J18 p0 p1 y4 y1605.1 y1605.2) (fun y1606 => F_retracelaw23_StackNone_J24 p0 p1 y1606.1 y1606.2.1 y1606.2.2.l y1606.2.2.most)) y1604
noncomputable def F_retracelaw23_StackNone_J29 (p0 : ByteArray) (p1 : Int) (y4 : T_stack_Stack_string_) (x1626 : Bool) (x1627 : Int) (x1628 : (List ByteArray)) : Option (Bool) :=
  cond x1626 (some false) (F_retracelaw23_StackNone_J3 p0 p1 y4 x1627 x1628)
noncomputable def F_retracelaw23_StackNone_J28 (p0 : ByteArray) (p1 : Int) (y3 : T_stack_Stack_string_) (y4 : T_stack_Stack_string_) (x1610 : ByteArray) (x1611 : Bool) (x1615 : Bool) (x1616 : (List ByteArray)) : Option (Bool) :=
  (F_stack_Stack_string_Push_v2 p0 (⟨([] : List ByteArray), y3.most⟩ : T_stack_Stack_string_)).bind fun y1630 => cond y1630.1 (F_retracelaw23_StackNone_J29 p0 p1 y4 true y1630.2.most y1630.2.l) (cond (!(x1610.toList == (⟨#[]⟩ : ByteArray).toList)) (F_retracelaw23_StackNone_J29 p0 p1 y4 true y1630.2.most y1630.2.l) (cond x1611 (F_retracelaw23_StackNone_J29 p0 p1 y4 true y1630.2.most y1630.2.l) (cond (((x1616).length : Int) != 0) (F_retracelaw23_StackNone_J29 p0 p1 y4 true y1630.2.most y1630.2.l) (cond x1615 (F_retracelaw23_StackNone_J29 p0 p1 y4 true y1630.2.most y1630.2.l) ((F_stack_Stack_string_Len_v2 y1630.2).bind fun y1636 => cond (y1636 != 0) (F_retracelaw23_StackNone_J29 p0 p1 y4 true y1630.2.most y1630.2.l) ((F_stack_Stack_string_Room_v2 y1630.2).bind fun y1638 => F_retracelaw23_StackNone_J29 p0 p1 y4 (y1638 != 0) y1630.2.most y1630.2.l))))))
noncomputable def F_retracelaw23_StackNone_J31 (p0 : ByteArray) (p1 : Int) (y4 : T_stack_Stack_string_) (x1640 : (List ByteArray)) (x1641 : Int) (x1662 : Bool) : Option (Bool) :=
  cond x1662 (some false) (F_retracelaw23_StackNone_J15 p0 p1 y4 x1640 x1641)
noncomputable def F_retracelaw23_StackNone_J32 (p0 : ByteArray) (p1 : Int) (y4 : T_stack_Stack_string_) (x1664 : Bool) (x1665 : Int) (x1666 : (List ByteArray)) : Option (Bool) :=
  cond x1664 (some false) (F_retracelaw23_StackNone_J3 p0 p1 y4 x1665 x1666)
noncomputable def F_retracelaw23_StackNone_J30 (p0 : ByteArray) (p1 : Int) (y4 : T_stack_Stack_string_) (x1610 : ByteArray) (x1611 : Bool) (x1639 : Bool) (x1640 : (List ByteArray)) (x1641 : Int) (x1642 : (List ByteArray)) : Option (Bool) :=
  (F_stack_Stack_string_Push_v3 p0 (⟨x1640, x1641⟩ : T_stack_Stack_string_)).bind fun y1668 => (Sum.elim (fun y1669 => cond y1669 (F_retracelaw23_StackNone_J31 p0 p1 y4 x1640 x1641 true) (cond (!(x1610.toList == (⟨#[]⟩ : ByteArray).toList)) (F_retracelaw23_StackNone_J31 p0 p1 y4 x1640 x1641 true) (cond x1611 (F_retracelaw23_StackNone_J31 p0 p1 y4 x1640 x1641 true) (cond (((x1642).length : Int) != 0) (F_retracelaw23_StackNone_J31 p0 p1 y4 x1640 x1641 true) (cond x1639 (F_retracelaw23_StackNone_J31 p0 p1 y4 x1640 x1641 true) ((F_stack_Stack_string_Len_v3 (⟨x1640, x1641⟩ : T_stack_Stack_string_)).bind fun y1675 => cond (y1675 != 0) (F_retracelaw23_StackNone_J31 p0 p1 y4 x1640 x1641 true) ((F_stack_Stack_string_Room_v3 (⟨x1640, x1641⟩ : T_stack_Stack_string_)).bind fun y1677 => F_retracelaw23_StackNone_J31 p0 p1 y4 x1640 x1641 (y1677 != 0)))))))) (fun y1678 => cond y1678.1 (F_retracelaw23_StackNone_J32 p0 p1 y4 true y1678.2.most y1678.2.l) (cond (!(x1610.toList == (⟨#[]⟩ : ByteArray).toList)) (F_retracelaw23_StackNone_J32 p0 p1 y4 true y1678.2.most y1678.2.l) (cond x1611 (F_retracelaw23_StackNone_J32 p0 p1 y4 true y1678.2.most y1678.2.l) (cond (((x1642).length : Int) != 0) (F_retracelaw23_StackNone_J32 p0 p1 y4 true y1678.2.most y1678.2.l) (cond x1639 (F_retracelaw23_StackNone_J32 p0 p1 y4 true y1678.2.most y1678.2.l) ((F_stack_Stack_string_Len_v2 y1678.2).bind fun y1684 => cond (y1684 != 0) (F_retracelaw23_StackNone_J32 p0 p1 y4 true y1678.2.most y1678.2.l) ((F_stack_Stack_string_Room_v2 y1678.2).bind fun y1686 => F_retracelaw23_StackNone_J32 p0 p1 y4 (y1686 != 0) y1678.2.most y1678.2.l)))))))) y1668
noncomputable def F_retracelaw23_StackNone_J27 (p0 : ByteArray) (p1 : Int) (y3 : T_stack_Stack_string_) (y4 : T_stack_Stack_string_) (x1610 : ByteArray) (x1611 : Bool) : Option (Bool) :=
  (F_stack_Stack_string_Take_v2 (if 1 > p1 then 1 else p1) (⟨([] : List ByteArray), y3.most⟩ : T_stack_Stack_string_)).bind fun y1687 => (Sum.elim (fun y1688 => F_retracelaw23_StackNone_J28 p0 p1 y3 y4 x1610 x1611 y1688.2 y1688.1) (fun y1689 => F_retracelaw23_StackNone_J30 p0 p1 y4 x1610 x1611 y1689.2.1 y1689.2.2.l y1689.2.2.most y1689.1)) y1687
noncomputable def F_retracelaw23_StackNone_J34 (p0 : ByteArray) (p1 : Int) (y4 : T_stack_Stack_string_) (y1695 : (List ByteArray) × Bool × T_stack_Stack_string_) (x1715 : Bool) : Option (Bool) :=
  cond x1715 (some false) (F_retracelaw23_StackNone_J15 p0 p1 y4 y1695.2.2.l y1695.2.2.most)
noncomputable def F_retracelaw23_StackNone_J35 (p0 : ByteArray) (p1 : Int) (y4 : T_stack_Stack_string_) (x1717 : Bool) (x1718 : Int) (x1719 : (List ByteArray)) : Option (Bool) :=
  cond x1717 (some false) (F_retracelaw23_StackNone_J3 p0 p1 y4 x1718 x1719)
noncomputable def F_retracelaw23_StackNone_J33 (p0 : ByteArray) (p1 : Int) (y4 : T_stack_Stack_string_) (x1690 : ByteArray) (x1691 : Bool) (x1692 : (List ByteArray)) (x1693 : Int) : Option (Bool) :=
  (F_stack_Stack_string_Take_v3 (if 1 > p1 then 1 else p1) (⟨x1692, x1693⟩ : T_stack_Stack_string_)).bind fun y1695 => (F_stack_Stack_string_Push_v3 p0 y1695.2.2).bind fun y1721 => (Sum.elim (fun y1722 => cond y1722 (F_retracelaw23_StackNone_J34 p0 p1 y4 y1695 true) (cond (!(x1690.toList == (⟨#[]⟩ : ByteArray).toList)) (F_retracelaw23_StackNone_J34 p0 p1 y4 y1695 true) (cond x1691 (F_retracelaw23_StackNone_J34 p0 p1 y4 y1695 true) (cond (((y1695.1).length : Int) != 0) (F_retracelaw23_StackNone_J34 p0 p1 y4 y1695 true) (cond y1695.2.1 (F_retracelaw23_StackNone_J34 p0 p1 y4 y1695 true) ((F_stack_Stack_string_Len_v3 y1695.2.2).bind fun y1728 => cond (y1728 != 0) (F_retracelaw23_StackNone_J34 p0 p1 y4 y1695 true) ((F_stack_Stack_string_Room_v3 y1695.2.2).bind fun y1730 => F_retracelaw23_StackNone_J34 p0 p1 y4 y1695 (y1730 != 0)))))))) (fun y1731 => cond y1731.1 (F_retracelaw23_StackNone_J35 p0 p1 y4 true y1731.2.most y1731.2.l) (cond (!(x1690.toList == (⟨#[]⟩ : ByteArray).toList)) (F_retracelaw23_StackNone_J35 p0 p1 y4 true y1731.2.most y1731.2.l) (cond x1691 (F_retracelaw23_StackNone_J35 p0 p1 y4 true y1731.2.most y1731.2.l) (cond (((y1695.1).length : Int) != 0) (F_retracelaw23_StackNone_J35 p0 p1 y4 true y1731.2.most y1731.2.l) (cond y1695.2.1 (F_retracelaw23_StackNone_J35 p0 p1 y4 true y1731.2.most y1731.2.l) ((F_stack_Stack_string_Len_v2 y1731.2).bind fun y1737 => cond (y1737 != 0) (F_retracelaw23_StackNone_J35 p0 p1 y4 true y1731.2.most y1731.2.l) ((F_stack_Stack_string_Room_v2 y1731.2).bind fun y1739 => F_retracelaw23_StackNone_J35 p0 p1 y4 (y1739 != 0) y1731.2.most y1731.2.l)))))))) y1721
noncomputable def F_retracelaw23_StackNone_J2 (p0 : ByteArray) (p1 : Int) (y3 : T_stack_Stack_string_) (y4 : T_stack_Stack_string_) (x913 : Bool) : Option (Bool) :=
  cond x913 (some false) ((F_stack_Stack_string_Pop_v2 (⟨([] : List ByteArray), y3.most⟩ : T_stack_Stack_string_)).bind fun y1740 => (Sum.elim (fun y1741 => F_retracelaw23_StackNone_J27 p0 p1 y3 y4 y1741.1 y1741.2) (fun y1742 => F_retracelaw23_StackNone_J33 p0 p1 y4 y1742.1 y1742.2.1 y1742.2.2.l y1742.2.2.most)) y1740)
noncomputable def F_retracelaw23_StackNone (p0 : ByteArray) (p1 : Int) : Option (Bool) :=
  (F_stack_New_string 0).bind fun y3 => (F_stack_New_string (if 0 < p1 then 0 else p1)).bind fun y4 => (F_stack_Stack_string_Pop).bind fun y902 => (F_stack_Stack_string_Take (if 1 > p1 then 1 else p1)).bind fun y904 => (F_stack_Stack_string_Push p0).bind fun y1743 => cond y1743 (F_retracelaw23_StackNone_J2 p0 p1 y3 y4 true) (cond (!(y902.1.toList == (⟨#[]⟩ : ByteArray).toList)) (F_retracelaw23_StackNone_J2 p0 p1 y3 y4 true) (cond y902.2 (F_retracelaw23_StackNone_J2 p0 p1 y3 y4 true) (cond y904.2 (F_retracelaw23_StackNone_J2 p0 p1 y3 y4 true) ((F_stack_Stack_string_Len).bind fun y1748 => cond (y1748 != 0) (F_retracelaw23_StackNone_J2 p0 p1 y3 y4 true) ((F_stack_Stack_string_Room).bind fun y1750 => F_retracelaw23_StackNone_J2 p0 p1 y3 y4 (y1750 != 0))))))

theorem mixedOrd : Try.prog.follows .mixedOrders = true := by kernel_rfl
end Go.Ab
