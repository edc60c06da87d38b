/- GIX -/
import Derived.Test.YtjdkbdiagjlaiaaGreatGI
import Derived.Test.YtjdkbdiagjlaiaaGreatAbEval
namespace Go.Ab
open Go.Proofs
set_option linter.unusedVariables false
set_option maxRecDepth 100000
noncomputable def X_token_words  : Option ((List ByteArray)) :=
  some ([(⟨#[97, 102, 116, 101, 114]⟩ : ByteArray), (⟨#[97, 115, 115, 101, 114, 116]⟩ : ByteArray), (⟨#[99, 97, 115, 101]⟩ : ByteArray), (⟨#[99, 104, 97, 110]⟩ : ByteArray), (⟨#[101, 108, 115, 101]⟩ : ByteArray), (⟨#[105, 102]⟩ : ByteArray), (⟨#[109, 97, 105, 110]⟩ : ByteArray), (⟨#[112, 114, 105, 110, 116]⟩ : ByteArray), (⟨#[112, 114, 111, 99]⟩ : ByteArray), (⟨#[114, 97, 110, 100, 111, 109]⟩ : ByteArray), (⟨#[115, 101, 108, 101, 99, 116]⟩ : ByteArray), (⟨#[115, 107, 105, 112]⟩ : ByteArray), (⟨#[115, 108, 101, 101, 112]⟩ : ByteArray), (⟨#[115, 116, 97, 114, 116]⟩ : ByteArray), (⟨#[115, 116, 111, 112]⟩ : ByteArray), (⟨#[118, 97, 114]⟩ : ByteArray), (⟨#[119, 104, 101, 110]⟩ : ByteArray), (⟨#[119, 104, 105, 108, 101]⟩ : ByteArray)])
noncomputable def X_cmp_isNaN_string (p0 : ByteArray) : Option (Bool) :=
  some (!(p0.toList == p0.toList))
noncomputable def X_cmp_Less_string_J1 (x5 : Bool) : Option (Bool) :=
  some x5
noncomputable def X_cmp_Less_string (p0 : ByteArray) (p1 : ByteArray) : Option (Bool) :=
  (X_cmp_isNaN_string p0).bind fun y6 => cond y6 ((X_cmp_isNaN_string p1).bind fun y8 => cond (!y8) (X_cmp_Less_string_J1 true) (X_cmp_Less_string_J1 (sLt p0 p1))) (X_cmp_Less_string_J1 (sLt p0 p1))
noncomputable def X_slices_isNaN_string (p0 : ByteArray) : Option (Bool) :=
  some (!(p0.toList == p0.toList))
noncomputable def X_slices_BinarySearch_string_string_J1 (x14 : Int) (x34 : Bool) : Option (Int × Bool) :=
  some (x14, x34)
noncomputable def X_slices_BinarySearch_string_string_L2 (p1 : ByteArray) (o0 : (List ByteArray)) (x14 : Int) (x15 : Int) : Option ((Int × Int) ⊕ (Int × Bool)) :=
  cond (decide (x14 < x15)) ((lAt o0 (w64 (Int.fdiv (wu64 (w64 (x14 + x15))) 2))).bind fun y22 => (X_cmp_Less_string y22 p1).bind fun y23 => cond y23 (some (.inl ((w64 ((w64 (Int.fdiv (wu64 (w64 (x14 + x15))) 2)) + 1)), x15))) (some (.inl (x14, (w64 (Int.fdiv (wu64 (w64 (x14 + x15))) 2)))))) ((cond (decide (x14 < ((o0).length : Int))) ((lAt o0 x14).bind fun y36 => cond (y36.toList == p1.toList) (X_slices_BinarySearch_string_string_J1 x14 true) ((lAt o0 x14).bind fun y38 => (X_slices_isNaN_string y38).bind fun y39 => cond y39 ((X_slices_isNaN_string p1).bind fun y41 => X_slices_BinarySearch_string_string_J1 x14 y41) (X_slices_BinarySearch_string_string_J1 x14 false))) (X_slices_BinarySearch_string_string_J1 x14 false)).map Sum.inr)
noncomputable def X_slices_BinarySearch_string_string (p1 : ByteArray) (o0 : (List ByteArray)) : Option (Int × Bool) :=
  Loopx (fun s : (Int × Int) => X_slices_BinarySearch_string_string_L2 p1 o0 s.1 s.2) (0, ((o0).length : Int))
noncomputable def X_token_Word (p0 : ByteArray) : Option (Bool) :=
  (X_token_words).bind fun y3 => (X_slices_BinarySearch_string_string p0 y3).bind fun y4 => some y4.2
theorem LE_token_words  : Le (X_token_words ) (F_token_words ) := by
  unfold X_token_words F_token_words
  repeat' with_reducible first
    | exact Le.non _
    | exact Le.rf _
    | refine Le.grd ?_
    | refine Le.bind ?_ (fun _ => ?_)
    | refine Le.cond ?_ ?_
    | refine Le.map ?_
    | refine Le.elim (fun _ => ?_) (fun _ => ?_)
    | refine Le.lt (fun _ => ?_)
    | refine Le.loop (fun _ => ?_)
    | refine Le.loopF (fun _ => ?_)
theorem LE_cmp_isNaN_string (p0 : ByteArray) : Le (X_cmp_isNaN_string p0) (F_cmp_isNaN_string p0) := by
  unfold X_cmp_isNaN_string F_cmp_isNaN_string
  repeat' with_reducible first
    | exact Le.non _
    | exact Le.rf _
    | refine Le.grd ?_
    | refine Le.bind ?_ (fun _ => ?_)
    | refine Le.cond ?_ ?_
    | refine Le.map ?_
    | refine Le.elim (fun _ => ?_) (fun _ => ?_)
    | refine Le.lt (fun _ => ?_)
    | refine Le.loop (fun _ => ?_)
    | refine Le.loopF (fun _ => ?_)
theorem LE_cmp_Less_string_J1 (x5 : Bool) : Le (X_cmp_Less_string_J1 x5) (F_cmp_Less_string_J1 x5) := by
  unfold X_cmp_Less_string_J1 F_cmp_Less_string_J1
  repeat' with_reducible first
    | exact Le.non _
    | exact Le.rf _
    | refine Le.grd ?_
    | refine Le.bind ?_ (fun _ => ?_)
    | refine Le.cond ?_ ?_
    | refine Le.map ?_
    | refine Le.elim (fun _ => ?_) (fun _ => ?_)
    | refine Le.lt (fun _ => ?_)
    | refine Le.loop (fun _ => ?_)
    | refine Le.loopF (fun _ => ?_)
theorem LE_cmp_Less_string (p0 : ByteArray) (p1 : ByteArray) : Le (X_cmp_Less_string p0 p1) (F_cmp_Less_string p0 p1) := by
  unfold X_cmp_Less_string F_cmp_Less_string
  repeat' with_reducible first
    | apply LE_cmp_isNaN_string
    | apply LE_cmp_Less_string_J1
    | exact Le.non _
    | exact Le.rf _
    | refine Le.grd ?_
    | refine Le.bind ?_ (fun _ => ?_)
    | refine Le.cond ?_ ?_
    | refine Le.map ?_
    | refine Le.elim (fun _ => ?_) (fun _ => ?_)
    | refine Le.lt (fun _ => ?_)
    | refine Le.loop (fun _ => ?_)
    | refine Le.loopF (fun _ => ?_)
theorem LE_slices_isNaN_string (p0 : ByteArray) : Le (X_slices_isNaN_string p0) (F_slices_isNaN_string p0) := by
  unfold X_slices_isNaN_string F_slices_isNaN_string
  repeat' with_reducible first
    | exact Le.non _
    | exact Le.rf _
    | refine Le.grd ?_
    | refine Le.bind ?_ (fun _ => ?_)
    | refine Le.cond ?_ ?_
    | refine Le.map ?_
    | refine Le.elim (fun _ => ?_) (fun _ => ?_)
    | refine Le.lt (fun _ => ?_)
    | refine Le.loop (fun _ => ?_)
    | refine Le.loopF (fun _ => ?_)
theorem LE_slices_BinarySearch_string_string_J1 (x14 : Int) (x34 : Bool) : Le (X_slices_BinarySearch_string_string_J1 x14 x34) (F_slices_BinarySearch_string_string_J1 x14 x34) := by
  unfold X_slices_BinarySearch_string_string_J1 F_slices_BinarySearch_string_string_J1
  repeat' with_reducible first
    | exact Le.non _
    | exact Le.rf _
    | refine Le.grd ?_
    | refine Le.bind ?_ (fun _ => ?_)
    | refine Le.cond ?_ ?_
    | refine Le.map ?_
    | refine Le.elim (fun _ => ?_) (fun _ => ?_)
    | refine Le.lt (fun _ => ?_)
    | refine Le.loop (fun _ => ?_)
    | refine Le.loopF (fun _ => ?_)
theorem LE_slices_BinarySearch_string_string_L2 (p1 : ByteArray) (o0 : (List ByteArray)) (x14 : Int) (x15 : Int) : Le (X_slices_BinarySearch_string_string_L2 p1 o0 x14 x15) (F_slices_BinarySearch_string_string_L2 p1 o0 x14 x15) := by
  unfold X_slices_BinarySearch_string_string_L2 F_slices_BinarySearch_string_string_L2
  repeat' with_reducible first
    | apply LE_cmp_Less_string
    | apply LE_slices_BinarySearch_string_string_J1
    | apply LE_slices_isNaN_string
    | exact Le.non _
    | exact Le.rf _
    | refine Le.grd ?_
    | refine Le.bind ?_ (fun _ => ?_)
    | refine Le.cond ?_ ?_
    | refine Le.map ?_
    | refine Le.elim (fun _ => ?_) (fun _ => ?_)
    | refine Le.lt (fun _ => ?_)
    | refine Le.loop (fun _ => ?_)
    | refine Le.loopF (fun _ => ?_)
theorem LE_slices_BinarySearch_string_string (p1 : ByteArray) (o0 : (List ByteArray)) : Le (X_slices_BinarySearch_string_string p1 o0) (F_slices_BinarySearch_string_string p1 o0) := by
  unfold X_slices_BinarySearch_string_string F_slices_BinarySearch_string_string
  repeat' with_reducible first
    | apply LE_slices_BinarySearch_string_string_L2
    | exact Le.non _
    | exact Le.rf _
    | refine Le.grd ?_
    | refine Le.bind ?_ (fun _ => ?_)
    | refine Le.cond ?_ ?_
    | refine Le.map ?_
    | refine Le.elim (fun _ => ?_) (fun _ => ?_)
    | refine Le.lt (fun _ => ?_)
    | refine Le.loop (fun _ => ?_)
    | refine Le.loopF (fun _ => ?_)
theorem LE_token_Word (p0 : ByteArray) : Le (X_token_Word p0) (F_token_Word p0) := by
  unfold X_token_Word F_token_Word
  repeat' with_reducible first
    | apply LE_token_words
    | apply LE_slices_BinarySearch_string_string
    | exact Le.non _
    | exact Le.rf _
    | refine Le.grd ?_
    | refine Le.bind ?_ (fun _ => ?_)
    | refine Le.cond ?_ ?_
    | refine Le.map ?_
    | refine Le.elim (fun _ => ?_) (fun _ => ?_)
    | refine Le.lt (fun _ => ?_)
    | refine Le.loop (fun _ => ?_)
    | refine Le.loopF (fun _ => ?_)
end Go.Ab
