import Derived.Test.YtholdfpblliiiaaGQ
import Derived.Test.YtholdfpblliiiaaAbEval
namespace Go.Ab
open Go.Proofs
set_option linter.unusedVariables false
set_option maxRecDepth 100000
noncomputable def X_token_letter_J1 (x3 : Bool) : Option (Bool) :=
  some x3
noncomputable def X_token_letter (p0 : Int) : Option (Bool) :=
  cond (p0 == 95) (X_token_letter_J1 true) (cond (decide (97 ≤ (bits .or .u8 p0 32))) (X_token_letter_J1 (decide ((bits .or .u8 p0 32) ≤ 122))) (X_token_letter_J1 false))
noncomputable def X_token_digit_J1 (x2 : Bool) : Option (Bool) :=
  some x2
noncomputable def X_token_digit (p0 : Int) : Option (Bool) :=
  cond (decide (48 ≤ p0)) (X_token_digit_J1 (decide (p0 ≤ 57))) (X_token_digit_J1 false)
noncomputable def X_token_wordly_J1 (x4 : Bool) : Option (Bool) :=
  some x4
noncomputable def X_token_wordly (p0 : Int) : Option (Bool) :=
  (X_token_letter p0).bind fun y5 => cond y5 (X_token_wordly_J1 true) ((X_token_digit p0).bind fun y7 => X_token_wordly_J1 y7)
noncomputable def X_token_run_L1 (p0 : ByteArray) (x24 : Int) : Option ((Int) ⊕ (ByteArray)) :=
  cond (decide (x24 < (p0.size : Int))) ((sAt p0 x24).bind fun y38 => (X_token_wordly y38).bind fun y39 => cond (!y39) (grd ((0 : Int) ≤ 0 ∧ 0 ≤ x24 ∧ x24 ≤ (p0.size : Int)) <| (some (p0.extract (Int.toNat 0) (Int.toNat x24))).map Sum.inr) (some (.inl (w64 (x24 + 1))))) ((some p0).map Sum.inr)
noncomputable def X_token_run (p0 : ByteArray) : Option (ByteArray) :=
  Loopx (fun s : (Int) => X_token_run_L1 p0 s) 0
noncomputable def X_token_words  : Option ((List ByteArray)) :=
  some ([(⟨#[97, 102, 116, 101, 114]⟩ : ByteArray), (⟨#[97, 115, 115, 101, 114, 116]⟩ : ByteArray), (⟨#[99, 97, 115, 101]⟩ : ByteArray), (⟨#[99, 104, 97, 110]⟩ : ByteArray), (⟨#[101, 108, 115, 101]⟩ : ByteArray), (⟨#[105, 102]⟩ : ByteArray), (⟨#[109, 97, 105, 110]⟩ : ByteArray), (⟨#[112, 114, 105, 110, 116]⟩ : ByteArray), (⟨#[112, 114, 111, 99]⟩ : ByteArray), (⟨#[114, 97, 110, 100, 111, 109]⟩ : ByteArray), (⟨#[115, 101, 108, 101, 99, 116]⟩ : ByteArray), (⟨#[115, 107, 105, 112]⟩ : ByteArray), (⟨#[115, 108, 101, 101, 112]⟩ : ByteArray), (⟨#[115, 116, 97, 114, 116]⟩ : ByteArray), (⟨#[115, 116, 111, 112]⟩ : ByteArray), (⟨#[118, 97, 114]⟩ : ByteArray), (⟨#[119, 104, 101, 110]⟩ : ByteArray), (⟨#[119, 104, 105, 108, 101]⟩ : ByteArray)])
noncomputable def X_cmp_isNaN_string (p0 : ByteArray) : Option (Bool) :=
  some (!(p0.toList == p0.toList))
noncomputable def X_cmp_Less_string_J1 (x5 : Bool) : Option (Bool) :=
  some x5
noncomputable def X_cmp_Less_string (p0 : ByteArray) (p1 : ByteArray) : Option (Bool) :=
  (X_cmp_isNaN_string p0).bind fun y6 => cond y6 ((X_cmp_isNaN_string p1).bind fun y8 => cond (!y8) (X_cmp_Less_string_J1 true) (X_cmp_Less_string_J1 (sLt p0 p1))) (X_cmp_Less_string_J1 (sLt p0 p1))
noncomputable def X_slices_isNaN_string (p0 : ByteArray) : Option (Bool) :=
  some (!(p0.toList == p0.toList))
noncomputable def X_slices_BinarySearch_string_string_J1 (x14 : Int) (x34 : Bool) : Option (Int × Bool) :=
  some (x14, x34)
noncomputable def X_slices_BinarySearch_string_string_L2 (p1 : ByteArray) (o0 : (List ByteArray)) (x14 : Int) (x15 : Int) : Option ((Int × Int) ⊕ (Int × Bool)) :=
  cond (decide (x14 < x15)) ((lAt o0 (w64 (Int.fdiv (wu64 (w64 (x14 + x15))) 2))).bind fun y22 => (X_cmp_Less_string y22 p1).bind fun y23 => cond y23 (some (.inl ((w64 ((w64 (Int.fdiv (wu64 (w64 (x14 + x15))) 2)) + 1)), x15))) (some (.inl (x14, (w64 (Int.fdiv (wu64 (w64 (x14 + x15))) 2)))))) ((cond (decide (x14 < ((o0).length : Int))) ((lAt o0 x14).bind fun y36 => cond (y36.toList == p1.toList) (X_slices_BinarySearch_string_string_J1 x14 true) ((lAt o0 x14).bind fun y38 => (X_slices_isNaN_string y38).bind fun y39 => cond y39 ((X_slices_isNaN_string p1).bind fun y41 => X_slices_BinarySearch_string_string_J1 x14 y41) (X_slices_BinarySearch_string_string_J1 x14 false))) (X_slices_BinarySearch_string_string_J1 x14 false)).map Sum.inr)
noncomputable def X_slices_BinarySearch_string_string (p1 : ByteArray) (o0 : (List ByteArray)) : Option (Int × Bool) :=
  Loopx (fun s : (Int × Int) => X_slices_BinarySearch_string_string_L2 p1 o0 s.1 s.2) (0, ((o0).length : Int))
noncomputable def X_token_Word (p0 : ByteArray) : Option (Bool) :=
  (X_token_words).bind fun y3 => (X_slices_BinarySearch_string_string p0 y3).bind fun y4 => some y4.2
noncomputable def X_token_Name_J1 (x9 : Bool) : Option (Bool) :=
  some x9
noncomputable def X_token_Name (p0 : ByteArray) : Option (Bool) :=
  cond (!(p0.toList == (⟨#[]⟩ : ByteArray).toList)) (cond (decide ((p0.size : Int) ≤ 16)) ((sAt p0 0).bind fun y12 => (X_token_letter y12).bind fun y13 => cond y13 ((X_token_run p0).bind fun y15 => cond (y15.toList == p0.toList) ((X_token_Word p0).bind fun y17 => X_token_Name_J1 (!y17)) (X_token_Name_J1 false)) (X_token_Name_J1 false)) (X_token_Name_J1 false)) (X_token_Name_J1 false)
noncomputable def X_code_tables_J3 (x144 : Int) (y205 : T_api_Def) (x244 : Bool) : Option ((Int × Int) ⊕ (Bool)) :=
  cond x244 ((some false).map Sum.inr) (some (.inl (y205.Entry, (w64 (x144 + 1)))))
noncomputable def X_code_tables_J2 (p0 : T_api_Code) (x143 : Int) (x144 : Int) (y205 : T_api_Def) (x208 : Bool) : Option ((Int × Int) ⊕ (Bool)) :=
  cond (!x208) (X_code_tables_J3 x144 y205 true) (cond (decide (x143 < 0)) (cond (y205.Entry != 0) (X_code_tables_J3 x144 y205 true) (cond (decide (y205.Entry ≤ x143)) (X_code_tables_J3 x144 y205 true) (cond (decide (((p0.Ins).length : Int) ≤ y205.Entry)) (X_code_tables_J3 x144 y205 true) (cond (decide (y205.Params < 0)) (X_code_tables_J3 x144 y205 true) (cond (decide (y205.Vars < y205.Params)) (X_code_tables_J3 x144 y205 true) (X_code_tables_J3 x144 y205 (decide (16 < y205.Vars)))))))) (cond (decide (y205.Entry ≤ x143)) (X_code_tables_J3 x144 y205 true) (cond (decide (((p0.Ins).length : Int) ≤ y205.Entry)) (X_code_tables_J3 x144 y205 true) (cond (decide (y205.Params < 0)) (X_code_tables_J3 x144 y205 true) (cond (decide (y205.Vars < y205.Params)) (X_code_tables_J3 x144 y205 true) (X_code_tables_J3 x144 y205 (decide (16 < y205.Vars))))))))
noncomputable def X_code_tables_J4 (x321 : Int) (x322 : Int) (y351 : T_api_Chan) (x366 : Bool) : Option ((Int × Int) ⊕ (Bool)) :=
  cond x366 ((some false).map Sum.inr) (cond (decide (64 < (w64 (x321 + (if 1 > y351.Size then 1 else y351.Size))))) ((some false).map Sum.inr) (some (.inl ((w64 (x321 + (if 1 > y351.Size then 1 else y351.Size))), (w64 (x322 + 1))))))
noncomputable def X_code_tables_L5 (p0 : T_api_Code) (x321 : Int) (x322 : Int) : Option ((Int × Int) ⊕ (Bool)) :=
  cond (decide (x322 < ((p0.Chans).length : Int))) ((lAt p0.Chans x322).bind fun y351 => (X_token_Name y351.Name).bind fun y373 => cond (!y373) (X_code_tables_J4 x321 x322 y351 true) (cond (decide (y351.Size < 0)) (X_code_tables_J4 x321 x322 y351 true) (cond (decide (16 < y351.Size)) (X_code_tables_J4 x321 x322 y351 true) (X_code_tables_J4 x321 x322 y351 (y351.Base != x321))))) ((some true).map Sum.inr)
noncomputable def X_code_tables_L6 (p0 : T_api_Code) (x143 : Int) (x144 : Int) : Option ((Int × Int) ⊕ (Bool)) :=
  cond (decide (x144 < ((p0.Defs).length : Int))) ((lAt p0.Defs x144).bind fun y205 => cond (y205.Name.toList == (⟨#[109, 97, 105, 110]⟩ : ByteArray).toList) (X_code_tables_J2 p0 x143 x144 y205 true) ((X_token_Name y205.Name).bind fun y260 => X_code_tables_J2 p0 x143 x144 y205 y260)) ((Loopx (fun s : (Int × Int) => X_code_tables_L5 p0 s.1 s.2) (0, 0)).map Sum.inr)
noncomputable def X_code_tables_J1 (p0 : T_api_Code) (x21 : Bool) : Option (Bool) :=
  cond x21 (some false) (Loopx (fun s : (Int × Int) => X_code_tables_L6 p0 s.1 s.2) ((-1), 0))
noncomputable def X_code_tables (p0 : T_api_Code) : Option (Bool) :=
  cond (decide (((p0.Defs).length : Int) < 1)) (X_code_tables_J1 p0 true) (cond (decide (32 < ((p0.Defs).length : Int))) (X_code_tables_J1 p0 true) (cond (decide (65536 < ((p0.Ins).length : Int))) (X_code_tables_J1 p0 true) (cond (decide (p0.Main < 0)) (X_code_tables_J1 p0 true) (cond (decide (((p0.Defs).length : Int) ≤ p0.Main)) (X_code_tables_J1 p0 true) ((lAt p0.Defs p0.Main).bind fun y384 => X_code_tables_J1 p0 (y384.Params != 0))))))
noncomputable def X_code_checker_routine (p1 : Int) (o0 : T_code_checker) : Option (T_code_checker) :=
  (lAt o0.Code.Defs p1).bind fun y3 => (lAt o0.Code.Defs p1).bind fun y4 => cond (decide ((w64 (p1 + 1)) < ((o0.Code.Defs).length : Int))) ((lAt o0.Code.Defs (w64 (p1 + 1))).bind fun y6 => some (⟨o0.Code, o0.marks, y3.Entry, y6.Entry, y4.Vars⟩ : T_code_checker)) (some (⟨o0.Code, o0.marks, y3.Entry, ((o0.Code.Ins).length : Int), y4.Vars⟩ : T_code_checker))
noncomputable def X_ins_rows  : Option ((List T_ins_row)) :=
  grd ((([(⟨(⟨#[]⟩ : ByteArray), 0, 0, 0⟩ : T_ins_row), (⟨(⟨#[109, 97, 114, 107]⟩ : ByteArray), 1, 0, 0⟩ : T_ins_row), (⟨(⟨#[112, 117, 115, 104]⟩ : ByteArray), 1, 0, 1⟩ : T_ins_row), (⟨(⟨#[108, 111, 97, 100]⟩ : ByteArray), 1, 0, 1⟩ : T_ins_row), (⟨(⟨#[115, 116, 111, 114, 101]⟩ : ByteArray), 1, 1, 0⟩ : T_ins_row), (⟨(⟨#[97, 112, 112, 108, 121]⟩ : ByteArray), 1, 0, 1⟩ : T_ins_row), (⟨(⟨#[106, 117, 109, 112]⟩ : ByteArray), 1, 0, 0⟩ : T_ins_row), (⟨(⟨#[122, 101, 114, 111]⟩ : ByteArray), 1, 1, 0⟩ : T_ins_row), (⟨(⟨#[111, 110, 101]⟩ : ByteArray), 1, 1, 0⟩ : T_ins_row), (⟨(⟨#[99, 104, 97, 110]⟩ : ByteArray), 2, 0, 1⟩ : T_ins_row), (⟨(⟨#[115, 101, 110, 100]⟩ : ByteArray), 0, 2, 0⟩ : T_ins_row), (⟨(⟨#[114, 101, 99, 118]⟩ : ByteArray), 1, 1, 0⟩ : T_ins_row), (⟨(⟨#[100, 114, 97, 119]⟩ : ByteArray), 1, 1, 0⟩ : T_ins_row), (⟨(⟨#[115, 108, 101, 101, 112]⟩ : ByteArray), 0, 1, 0⟩ : T_ins_row), (⟨(⟨#[115, 116, 97, 114, 116]⟩ : ByteArray), 2, 0, 0⟩ : T_ins_row), (⟨(⟨#[112, 114, 105, 110, 116]⟩ : ByteArray), 0, 1, 0⟩ : T_ins_row), (⟨(⟨#[97, 115, 115, 101, 114, 116]⟩ : ByteArray), 0, 1, 0⟩ : T_ins_row), (⟨(⟨#[115, 107, 105, 112]⟩ : ByteArray), 0, 0, 0⟩ : T_ins_row), (⟨(⟨#[115, 116, 111, 112]⟩ : ByteArray), 0, 0, 0⟩ : T_ins_row), (⟨(⟨#[111, 110, 114, 101, 99, 118]⟩ : ByteArray), 2, 1, 0⟩ : T_ins_row), (⟨(⟨#[111, 110, 115, 101, 110, 100]⟩ : ByteArray), 1, 2, 0⟩ : T_ins_row), (⟨(⟨#[97, 102, 116, 101, 114]⟩ : ByteArray), 1, 1, 0⟩ : T_ins_row), (⟨(⟨#[101, 108, 115, 101]⟩ : ByteArray), 1, 0, 0⟩ : T_ins_row), (⟨(⟨#[115, 101, 108, 101, 99, 116]⟩ : ByteArray), 0, 0, 0⟩ : T_ins_row), (⟨(⟨#[101, 110, 100]⟩ : ByteArray), 0, 0, 0⟩ : T_ins_row), (⟨(⟨#[99, 104, 111, 111, 115, 101]⟩ : ByteArray), 0, 0, 0⟩ : T_ins_row)] : List T_ins_row)).length = 26 ∧ ((List.replicate 26 (⟨(⟨#[]⟩ : ByteArray), 0, 0, 0⟩ : T_ins_row))).length = 26) <| grd ((([(⟨(⟨#[]⟩ : ByteArray), 0, 0, 0⟩ : T_ins_row), (⟨(⟨#[109, 97, 114, 107]⟩ : ByteArray), 1, 0, 0⟩ : T_ins_row), (⟨(⟨#[112, 117, 115, 104]⟩ : ByteArray), 1, 0, 1⟩ : T_ins_row), (⟨(⟨#[108, 111, 97, 100]⟩ : ByteArray), 1, 0, 1⟩ : T_ins_row), (⟨(⟨#[115, 116, 111, 114, 101]⟩ : ByteArray), 1, 1, 0⟩ : T_ins_row), (⟨(⟨#[97, 112, 112, 108, 121]⟩ : ByteArray), 1, 0, 1⟩ : T_ins_row), (⟨(⟨#[106, 117, 109, 112]⟩ : ByteArray), 1, 0, 0⟩ : T_ins_row), (⟨(⟨#[122, 101, 114, 111]⟩ : ByteArray), 1, 1, 0⟩ : T_ins_row), (⟨(⟨#[111, 110, 101]⟩ : ByteArray), 1, 1, 0⟩ : T_ins_row), (⟨(⟨#[99, 104, 97, 110]⟩ : ByteArray), 2, 0, 1⟩ : T_ins_row), (⟨(⟨#[115, 101, 110, 100]⟩ : ByteArray), 0, 2, 0⟩ : T_ins_row), (⟨(⟨#[114, 101, 99, 118]⟩ : ByteArray), 1, 1, 0⟩ : T_ins_row), (⟨(⟨#[100, 114, 97, 119]⟩ : ByteArray), 1, 1, 0⟩ : T_ins_row), (⟨(⟨#[115, 108, 101, 101, 112]⟩ : ByteArray), 0, 1, 0⟩ : T_ins_row), (⟨(⟨#[115, 116, 97, 114, 116]⟩ : ByteArray), 2, 0, 0⟩ : T_ins_row), (⟨(⟨#[112, 114, 105, 110, 116]⟩ : ByteArray), 0, 1, 0⟩ : T_ins_row), (⟨(⟨#[97, 115, 115, 101, 114, 116]⟩ : ByteArray), 0, 1, 0⟩ : T_ins_row), (⟨(⟨#[115, 107, 105, 112]⟩ : ByteArray), 0, 0, 0⟩ : T_ins_row), (⟨(⟨#[115, 116, 111, 112]⟩ : ByteArray), 0, 0, 0⟩ : T_ins_row), (⟨(⟨#[111, 110, 114, 101, 99, 118]⟩ : ByteArray), 2, 1, 0⟩ : T_ins_row), (⟨(⟨#[111, 110, 115, 101, 110, 100]⟩ : ByteArray), 1, 2, 0⟩ : T_ins_row), (⟨(⟨#[97, 102, 116, 101, 114]⟩ : ByteArray), 1, 1, 0⟩ : T_ins_row), (⟨(⟨#[101, 108, 115, 101]⟩ : ByteArray), 1, 0, 0⟩ : T_ins_row), (⟨(⟨#[115, 101, 108, 101, 99, 116]⟩ : ByteArray), 0, 0, 0⟩ : T_ins_row), (⟨(⟨#[101, 110, 100]⟩ : ByteArray), 0, 0, 0⟩ : T_ins_row), (⟨(⟨#[99, 104, 111, 111, 115, 101]⟩ : ByteArray), 0, 0, 0⟩ : T_ins_row)] : List T_ins_row)).length = 26) <| some ([(⟨(⟨#[]⟩ : ByteArray), 0, 0, 0⟩ : T_ins_row), (⟨(⟨#[109, 97, 114, 107]⟩ : ByteArray), 1, 0, 0⟩ : T_ins_row), (⟨(⟨#[112, 117, 115, 104]⟩ : ByteArray), 1, 0, 1⟩ : T_ins_row), (⟨(⟨#[108, 111, 97, 100]⟩ : ByteArray), 1, 0, 1⟩ : T_ins_row), (⟨(⟨#[115, 116, 111, 114, 101]⟩ : ByteArray), 1, 1, 0⟩ : T_ins_row), (⟨(⟨#[97, 112, 112, 108, 121]⟩ : ByteArray), 1, 0, 1⟩ : T_ins_row), (⟨(⟨#[106, 117, 109, 112]⟩ : ByteArray), 1, 0, 0⟩ : T_ins_row), (⟨(⟨#[122, 101, 114, 111]⟩ : ByteArray), 1, 1, 0⟩ : T_ins_row), (⟨(⟨#[111, 110, 101]⟩ : ByteArray), 1, 1, 0⟩ : T_ins_row), (⟨(⟨#[99, 104, 97, 110]⟩ : ByteArray), 2, 0, 1⟩ : T_ins_row), (⟨(⟨#[115, 101, 110, 100]⟩ : ByteArray), 0, 2, 0⟩ : T_ins_row), (⟨(⟨#[114, 101, 99, 118]⟩ : ByteArray), 1, 1, 0⟩ : T_ins_row), (⟨(⟨#[100, 114, 97, 119]⟩ : ByteArray), 1, 1, 0⟩ : T_ins_row), (⟨(⟨#[115, 108, 101, 101, 112]⟩ : ByteArray), 0, 1, 0⟩ : T_ins_row), (⟨(⟨#[115, 116, 97, 114, 116]⟩ : ByteArray), 2, 0, 0⟩ : T_ins_row), (⟨(⟨#[112, 114, 105, 110, 116]⟩ : ByteArray), 0, 1, 0⟩ : T_ins_row), (⟨(⟨#[97, 115, 115, 101, 114, 116]⟩ : ByteArray), 0, 1, 0⟩ : T_ins_row), (⟨(⟨#[115, 107, 105, 112]⟩ : ByteArray), 0, 0, 0⟩ : T_ins_row), (⟨(⟨#[115, 116, 111, 112]⟩ : ByteArray), 0, 0, 0⟩ : T_ins_row), (⟨(⟨#[111, 110, 114, 101, 99, 118]⟩ : ByteArray), 2, 1, 0⟩ : T_ins_row), (⟨(⟨#[111, 110, 115, 101, 110, 100]⟩ : ByteArray), 1, 2, 0⟩ : T_ins_row), (⟨(⟨#[97, 102, 116, 101, 114]⟩ : ByteArray), 1, 1, 0⟩ : T_ins_row), (⟨(⟨#[101, 108, 115, 101]⟩ : ByteArray), 1, 0, 0⟩ : T_ins_row), (⟨(⟨#[115, 101, 108, 101, 99, 116]⟩ : ByteArray), 0, 0, 0⟩ : T_ins_row), (⟨(⟨#[101, 110, 100]⟩ : ByteArray), 0, 0, 0⟩ : T_ins_row), (⟨(⟨#[99, 104, 111, 111, 115, 101]⟩ : ByteArray), 0, 0, 0⟩ : T_ins_row)] : List T_ins_row)
noncomputable def X_ins_find_J1 (p0 : Int) (x6 : Bool) : Option (T_ins_row × Bool) :=
  cond x6 (some ((⟨(⟨#[]⟩ : ByteArray), 0, 0, 0⟩ : T_ins_row), false)) ((X_ins_rows).bind fun y10 => (aAt 26 y10 p0).bind fun y11 => some (y11, true))
noncomputable def X_ins_find (p0 : Int) : Option (T_ins_row × Bool) :=
  cond (decide (p0 < 1)) (X_ins_find_J1 p0 true) (X_ins_find_J1 p0 (decide (25 < p0)))
noncomputable def X_arith_Wide_J2 (x13 : Bool) : Option (Int) :=
  cond x13 (some 2) (some 0)
noncomputable def X_arith_Wide_J1 (p0 : Int) (x10 : Bool) : Option (Int) :=
  cond x10 (some 1) (cond (decide (5 ≤ p0)) (X_arith_Wide_J2 (decide (p0 ≤ 17))) (X_arith_Wide_J2 false))
noncomputable def X_arith_Wide (p0 : Int) : Option (Int) :=
  cond (p0 == 3) (X_arith_Wide_J1 p0 true) (X_arith_Wide_J1 p0 (p0 == 4))
noncomputable def X_ins_Right_J2 (x28 : Bool) : Option (Bool) :=
  some x28
noncomputable def X_ins_Right_J1 (p0 : T_api_Ins) (x20 : Bool) : Option (Bool) :=
  cond x20 (some false) (cond (p0.Op != 14) (cond (p0.Op != 5) (X_ins_Right_J2 true) ((X_arith_Wide p0.A).bind fun y31 => X_ins_Right_J2 (decide (0 < y31)))) (cond (decide (0 ≤ p0.B)) (cond (p0.Op != 5) (X_ins_Right_J2 true) ((X_arith_Wide p0.A).bind fun y34 => X_ins_Right_J2 (decide (0 < y34)))) (X_ins_Right_J2 false)))
noncomputable def X_ins_Right (p0 : T_api_Ins) : Option (Bool) :=
  (X_ins_find p0.Op).bind fun y2 => cond (!y2.2) (X_ins_Right_J1 p0 true) (cond (decide (y2.1.nums < 1)) (cond (p0.A != 0) (X_ins_Right_J1 p0 true) (cond (decide (y2.1.nums < 2)) (X_ins_Right_J1 p0 (p0.B != 0)) (X_ins_Right_J1 p0 false))) (cond (decide (y2.1.nums < 2)) (X_ins_Right_J1 p0 (p0.B != 0)) (X_ins_Right_J1 p0 false)))
noncomputable def X_code_checker_may_1_J1 (x2 : Bool) : Option (Bool) :=
  some x2
noncomputable def X_code_checker_may_1 (p0 : T_api_Chan) (o0 : T_api_Ins) : Option (Bool) :=
  cond (p0.Base == o0.A) (X_code_checker_may_1_J1 (p0.Size == o0.B)) (X_code_checker_may_1_J1 false)
noncomputable def X_slices_IndexFunc_retrace_api_Chan_retrace_api_Chan_L1 (p0 : (List T_api_Chan)) (o0 : T_api_Ins) (x20 : Int) : Option ((Int) ⊕ (Int)) :=
  cond (decide (x20 < ((p0).length : Int))) ((lAt p0 x20).bind fun y32 => (X_code_checker_may_1 y32 o0).bind fun y33 => cond y33 ((some x20).map Sum.inr) (some (.inl (w64 (x20 + 1))))) ((some (-1)).map Sum.inr)
noncomputable def X_slices_IndexFunc_retrace_api_Chan_retrace_api_Chan (p0 : (List T_api_Chan)) (o0 : T_api_Ins) : Option (Int) :=
  Loopx (fun s : (Int) => X_slices_IndexFunc_retrace_api_Chan_retrace_api_Chan_L1 p0 o0 s) 0
noncomputable def X_slices_ContainsFunc_retrace_api_Chan_retrace_api_Chan (p0 : (List T_api_Chan)) (o0 : T_api_Ins) : Option (Bool) :=
  (X_slices_IndexFunc_retrace_api_Chan_retrace_api_Chan p0 o0).bind fun y2 => some (decide (0 ≤ y2))
noncomputable def X_patch_Target_J1 (p0 : T_api_Ins) (x19 : Bool) : Option (Int × Bool) :=
  cond x19 (some (p0.A, true)) (cond (p0.Op == 19) (some (p0.B, true)) (some (0, false)))
noncomputable def X_patch_Target (p0 : T_api_Ins) : Option (Int × Bool) :=
  cond (p0.Op == 6) (X_patch_Target_J1 p0 (p0.Op == 6)) (cond (p0.Op == 7) (X_patch_Target_J1 p0 (p0.Op == 7)) (cond (p0.Op == 8) (X_patch_Target_J1 p0 (p0.Op == 8)) (cond (p0.Op == 20) (X_patch_Target_J1 p0 (p0.Op == 20)) (cond (p0.Op == 21) (X_patch_Target_J1 p0 (p0.Op == 21)) (X_patch_Target_J1 p0 (p0.Op == 22))))))
noncomputable def X_code_checker_aimed_J1 (x5 : Bool) : Option (Bool) :=
  some x5
noncomputable def X_code_checker_aimed (p1 : Int) (p2 : Int) (o0 : T_code_checker) : Option (Bool) :=
  cond (decide (o0.from_ ≤ p2)) (cond (decide (p2 < o0.to)) (cond (decide (p1 < p2)) (X_code_checker_aimed_J1 true) ((lAt o0.Code.Ins p2).bind fun y9 => X_code_checker_aimed_J1 (y9.Op == 1))) (X_code_checker_aimed_J1 false)) (X_code_checker_aimed_J1 false)
noncomputable def X_code_acts_J1 (x27 : Bool) : Option (Bool) :=
  cond x27 (some true) (some false)
noncomputable def X_code_acts (p0 : Int) : Option (Bool) :=
  cond (p0 == 4) (X_code_acts_J1 (p0 == 4)) (cond (p0 == 10) (X_code_acts_J1 (p0 == 10)) (cond (p0 == 11) (X_code_acts_J1 (p0 == 11)) (cond (p0 == 12) (X_code_acts_J1 (p0 == 12)) (cond (p0 == 13) (X_code_acts_J1 (p0 == 13)) (cond (p0 == 14) (X_code_acts_J1 (p0 == 14)) (cond (p0 == 15) (X_code_acts_J1 (p0 == 15)) (cond (p0 == 16) (X_code_acts_J1 (p0 == 16)) (X_code_acts_J1 (p0 == 17)))))))))
noncomputable def X_code_chooses_J1 (x4 : Bool) : Option (Bool) :=
  some x4
noncomputable def X_code_chooses (p0 : Int) : Option (Bool) :=
  cond (p0 == 19) (X_code_chooses_J1 true) (cond (p0 == 20) (X_code_chooses_J1 true) (cond (p0 == 21) (X_code_chooses_J1 true) (X_code_chooses_J1 (p0 == 22))))
noncomputable def X_code_Settle_J1 (p0 : T_api_Code) (x45 : Int) (x46 : Int) (x79 : Bool) : Option ((Int × Int) ⊕ (Int)) :=
  cond x79 ((some x45).map Sum.inr) ((lAt p0.Ins x45).bind fun y83 => some (.inl (y83.A, (w64 (x46 + 1)))))
noncomputable def X_code_Settle_L2 (p0 : T_api_Code) (p1 : Int) (x45 : Int) (x46 : Int) : Option ((Int × Int) ⊕ (Int)) :=
  cond (decide (x46 < (w64 (((p0.Ins).length : Int) + 1)))) (cond (decide (x45 < 0)) (X_code_Settle_J1 p0 x45 x46 true) (cond (decide (((p0.Ins).length : Int) ≤ x45)) (X_code_Settle_J1 p0 x45 x46 true) ((lAt p0.Ins x45).bind fun y86 => X_code_Settle_J1 p0 x45 x46 (y86.Op != 6)))) ((some p1).map Sum.inr)
noncomputable def X_code_Settle (p0 : T_api_Code) (p1 : Int) : Option (Int) :=
  Loopx (fun s : (Int × Int) => X_code_Settle_L2 p0 p1 s.1 s.2) (p1, 0)
noncomputable def X_code_checker_rests_J1 (x8 : Bool) : Option (Bool) :=
  some x8
noncomputable def X_code_checker_rests (p1 : Int) (o0 : T_code_checker) : Option (Bool) :=
  (X_code_Settle o0.Code p1).bind fun y2 => cond (decide (o0.from_ ≤ y2)) (cond (decide (y2 < o0.to)) ((lAt o0.Code.Ins y2).bind fun y11 => cond (y11.Op == 1) (X_code_checker_rests_J1 true) ((lAt o0.Code.Ins y2).bind fun y13 => X_code_checker_rests_J1 (y13.Op == 24))) (X_code_checker_rests_J1 false)) (X_code_checker_rests_J1 false)
noncomputable def X_code_checker_may_J4 (x66 : Bool) : Option (Bool) :=
  some x66
noncomputable def X_code_checker_may_J3 (p1 : Int) (o0 : T_code_checker) (y2 : T_api_Ins) (y42 : Int × Bool) (x54 : Bool) : Option (Bool) :=
  cond x54 (some false) ((X_code_acts y2.Op).bind fun y67 => cond (!y67) ((X_code_chooses y2.Op).bind fun y69 => cond (!y69) (X_code_checker_may_J4 true) ((X_code_checker_rests y42.1 o0).bind fun y71 => X_code_checker_may_J4 y71)) ((X_code_checker_rests (w64 (p1 + 1)) o0).bind fun y72 => cond y72 ((X_code_chooses y2.Op).bind fun y74 => cond (!y74) (X_code_checker_may_J4 true) ((X_code_checker_rests y42.1 o0).bind fun y76 => X_code_checker_may_J4 y76)) (X_code_checker_may_J4 false)))
noncomputable def X_code_checker_may_J2 (p1 : Int) (o0 : T_code_checker) (y2 : T_api_Ins) (x40 : Bool) : Option (Bool) :=
  (X_patch_Target y2).bind fun y42 => cond (!x40) (X_code_checker_may_J3 p1 o0 y2 y42 true) (cond y42.2 ((X_code_checker_aimed p1 y42.1 o0).bind fun y79 => X_code_checker_may_J3 p1 o0 y2 y42 (!y79)) (X_code_checker_may_J3 p1 o0 y2 y42 false))
noncomputable def X_code_checker_may_J5 (p1 : Int) (o0 : T_code_checker) (y2 : T_api_Ins) (x85 : Bool) : Option (Bool) :=
  cond x85 (cond (decide (0 ≤ y2.A)) (X_code_checker_may_J2 p1 o0 y2 (decide (y2.A < o0.vars))) (X_code_checker_may_J2 p1 o0 y2 false)) (cond (y2.Op == 9) ((X_slices_ContainsFunc_retrace_api_Chan_retrace_api_Chan o0.Code.Chans y2).bind fun y89 => X_code_checker_may_J2 p1 o0 y2 y89) (cond (y2.Op == 14) (cond (decide (0 ≤ y2.A)) (cond (decide (y2.A < ((o0.Code.Defs).length : Int))) ((lAt o0.Code.Defs y2.A).bind fun y93 => X_code_checker_may_J2 p1 o0 y2 (y2.B == y93.Params)) (X_code_checker_may_J2 p1 o0 y2 false)) (X_code_checker_may_J2 p1 o0 y2 false)) (X_code_checker_may_J2 p1 o0 y2 true)))
noncomputable def X_code_checker_may_J1 (p1 : Int) (o0 : T_code_checker) (y2 : T_api_Ins) (x20 : Bool) : Option (Bool) :=
  cond x20 (some false) (cond (y2.Op == 1) (X_code_checker_may_J2 p1 o0 y2 (y2.A == o0.marks)) (cond (y2.Op == 3) (X_code_checker_may_J5 p1 o0 y2 (y2.Op == 3)) (cond (y2.Op == 4) (X_code_checker_may_J5 p1 o0 y2 (y2.Op == 4)) (cond (y2.Op == 11) (X_code_checker_may_J5 p1 o0 y2 (y2.Op == 11)) (cond (y2.Op == 12) (X_code_checker_may_J5 p1 o0 y2 (y2.Op == 12)) (X_code_checker_may_J5 p1 o0 y2 (y2.Op == 19)))))))
noncomputable def X_code_checker_may (p1 : Int) (o0 : T_code_checker) : Option (Bool) :=
  (lAt o0.Code.Ins p1).bind fun y2 => (X_ins_Right y2).bind fun y98 => cond (!y98) (X_code_checker_may_J1 p1 o0 y2 true) (cond (!((y2.Op == 24) == (p1 == (w64 (o0.to - 1))))) (X_code_checker_may_J1 p1 o0 y2 true) (cond (p1 == o0.from_) (cond (y2.Op != 1) (X_code_checker_may_J1 p1 o0 y2 (y2.Op != 24)) (X_code_checker_may_J1 p1 o0 y2 false)) (X_code_checker_may_J1 p1 o0 y2 false)))
noncomputable def X_ins_Takes_J1 (p0 : T_api_Ins) (y2 : T_ins_row × Bool) (x21 : Bool) : Option (Int) :=
  cond x21 (some 1) (cond (p0.Op == 14) (some p0.B) (some y2.1.takes))
noncomputable def X_ins_Takes (p0 : T_api_Ins) : Option (Int) :=
  (X_ins_find p0.Op).bind fun y2 => (X_ins_Right p0).bind fun y15 => cond (!y15) (some 0) (cond (p0.Op == 5) ((X_arith_Wide p0.A).bind fun y19 => some y19) (cond (p0.Op == 9) (X_ins_Takes_J1 p0 y2 (decide (0 < p0.B))) (X_ins_Takes_J1 p0 y2 false)))
noncomputable def X_ins_Gives_J1 (y10 : T_ins_row × Bool) (x13 : Bool) : Option (Int) :=
  cond x13 (some y10.1.gives) (some 0)
noncomputable def X_ins_Gives (p0 : T_api_Ins) : Option (Int) :=
  (X_ins_find p0.Op).bind fun y10 => cond y10.2 ((X_ins_Right p0).bind fun y16 => X_ins_Gives_J1 y10 y16) (X_ins_Gives_J1 y10 false)
noncomputable def X_code_fits_J1 (p0 : T_api_Ins) (p1 : T_code_there) (y2 : Int) (x23 : Bool) (x24 : Bool) : Option (T_code_there × Bool) :=
  (X_ins_Gives p0).bind fun y26 => some ((⟨(w64 ((w64 (p1.n - y2)) + y26)), x24⟩ : T_code_there), x23)
noncomputable def X_code_fits_J3 (p0 : T_api_Ins) (p1 : T_code_there) (y2 : Int) (x39 : Bool) : Option (T_code_there × Bool) :=
  cond x39 (cond ((w64 (p1.n - y2)) == 0) (X_code_fits_J1 p0 p1 y2 (!p1.choose) p1.choose) (X_code_fits_J1 p0 p1 y2 false p1.choose)) (X_code_fits_J1 p0 p1 y2 (decide (0 ≤ (w64 (p1.n - y2)))) p1.choose)
noncomputable def X_code_fits_J2 (p0 : T_api_Ins) (p1 : T_code_there) (y2 : Int) (x29 : Bool) : Option (T_code_there × Bool) :=
  cond x29 (X_code_fits_J1 p0 p1 y2 ((p1.n == 0) && ((p1.choose == false) && true)) (p0.Op == 25)) (cond (p0.Op == 23) (X_code_fits_J1 p0 p1 y2 ((p1.n == 0) && ((p1.choose == true) && true)) p1.choose) ((X_code_chooses p0.Op).bind fun y33 => cond y33 (cond ((w64 (p1.n - y2)) == 0) (X_code_fits_J1 p0 p1 y2 p1.choose p1.choose) (X_code_fits_J1 p0 p1 y2 false p1.choose)) ((X_code_acts p0.Op).bind fun y43 => cond y43 (X_code_fits_J3 p0 p1 y2 y43) (X_code_fits_J3 p0 p1 y2 (p0.Op == 18)))))
noncomputable def X_code_fits (p0 : T_api_Ins) (p1 : T_code_there) : Option (T_code_there × Bool) :=
  (X_ins_Takes p0).bind fun y2 => cond (p0.Op == 1) (X_code_fits_J2 p0 p1 y2 (p0.Op == 1)) (cond (p0.Op == 24) (X_code_fits_J2 p0 p1 y2 (p0.Op == 24)) (X_code_fits_J2 p0 p1 y2 (p0.Op == 25)))
noncomputable def X_code_checker_flow_1 (p0 : Int) (p1 : T_code_there) (o2_0 : Int) (o3_0 : Bool) (o1 : (List (Int × T_code_there))) : Option (Bool × (List (Int × T_code_there))) :=
  Let (mGet o1 p0) fun y2 => cond (decide (p0 ≤ o2_0)) (cond o3_0 (some (((p1.n == 0) && ((p1.choose == false) && true)), o1)) (some (false, o1))) (cond y2.isSome (cond o3_0 (some (((p1.n == ((y2.getD (⟨0, false⟩ : T_code_there)).n)) && ((p1.choose == ((y2.getD (⟨0, false⟩ : T_code_there)).choose)) && true)), o1)) (some (false, o1))) (some (o3_0, (mPut o1 p0 p1))))
noncomputable def X_code_checker_flow_J1 (x139 : Int) (x207 : (List (Int × T_code_there))) : Option (((List (Int × T_code_there)) × Int) ⊕ (Int × Bool)) :=
  some (.inl (x207, (w64 (x139 + 1))))
noncomputable def X_code_checker_flow_J4 (x139 : Int) (x245 : (List (Int × T_code_there))) (x246 : Bool) : Option (((List (Int × T_code_there)) × Int) ⊕ (Int × Bool)) :=
  cond (!x246) ((some (x139, false)).map Sum.inr) (X_code_checker_flow_J1 x139 x245)
noncomputable def X_code_checker_flow_J5 (x139 : Int) (y220 : T_code_there × Bool) (x232 : (List (Int × T_code_there))) (x233 : Bool) (x254 : Bool) : Option (((List (Int × T_code_there)) × Int) ⊕ (Int × Bool)) :=
  cond x254 ((X_code_checker_flow_1 (w64 (x139 + 1)) y220.1 x139 x233 x232).bind fun y256 => X_code_checker_flow_J4 x139 y256.2 y256.1) (X_code_checker_flow_J4 x139 x232 x233)
noncomputable def X_code_checker_flow_J3 (x139 : Int) (y211 : T_api_Ins) (y220 : T_code_there × Bool) (x232 : (List (Int × T_code_there))) (x233 : Bool) : Option (((List (Int × T_code_there)) × Int) ⊕ (Int × Bool)) :=
  cond x233 (cond (y211.Op != 6) (cond (y211.Op != 18) (cond (y211.Op != 23) (X_code_checker_flow_J5 x139 y220 x232 x233 (y211.Op != 24)) (X_code_checker_flow_J5 x139 y220 x232 x233 false)) (X_code_checker_flow_J5 x139 y220 x232 x233 false)) (X_code_checker_flow_J5 x139 y220 x232 x233 false)) (X_code_checker_flow_J5 x139 y220 x232 x233 false)
noncomputable def X_code_checker_flow_J6 (x138 : (List (Int × T_code_there))) (x139 : Int) (y211 : T_api_Ins) (y220 : T_code_there × Bool) (y262 : Int × Bool) (x264 : Bool) : Option (((List (Int × T_code_there)) × Int) ⊕ (Int × Bool)) :=
  cond x264 ((X_code_chooses y211.Op).bind fun y267 => cond y267 ((X_code_checker_flow_1 y262.1 (⟨0, false⟩ : T_code_there) x139 y220.2 x138).bind fun y269 => X_code_checker_flow_J3 x139 y211 y220 y269.2 y269.1) ((X_code_checker_flow_1 y262.1 y220.1 x139 y220.2 x138).bind fun y270 => X_code_checker_flow_J3 x139 y211 y220 y270.2 y270.1)) (X_code_checker_flow_J3 x139 y211 y220 x138 y220.2)
noncomputable def X_code_checker_flow_J2 (x138 : (List (Int × T_code_there))) (x139 : Int) (y209 : (Option T_code_there)) (y211 : T_api_Ins) (x217 : Bool) : Option (((List (Int × T_code_there)) × Int) ⊕ (Int × Bool)) :=
  cond x217 (X_code_checker_flow_J1 x139 x138) ((X_code_fits y211 (y209.getD (⟨0, false⟩ : T_code_there))).bind fun y220 => (X_patch_Target y211).bind fun y262 => cond y262.2 (X_code_checker_flow_J6 x138 x139 y211 y220 y262 y220.2) (X_code_checker_flow_J6 x138 x139 y211 y220 y262 false))
noncomputable def X_code_checker_flow_L7 (o0 : T_code_checker) (x138 : (List (Int × T_code_there))) (x139 : Int) : Option (((List (Int × T_code_there)) × Int) ⊕ (Int × Bool)) :=
  cond (decide (x139 < o0.to)) (Let (mGet x138 x139) fun y209 => (lAt o0.Code.Ins x139).bind fun y211 => cond (!y209.isSome) (X_code_checker_flow_J2 x138 x139 y209 y211 (y211.Op != 1)) (X_code_checker_flow_J2 x138 x139 y209 y211 false)) ((some (0, true)).map Sum.inr)
noncomputable def X_code_checker_flow (o0 : T_code_checker) : Option (Int × Bool) :=
  Loopx (fun s : ((List (Int × T_code_there)) × Int) => X_code_checker_flow_L7 o0 s.1 s.2) (([(o0.from_, (⟨0, false⟩ : T_code_there))] : List (Int × T_code_there)), o0.from_)
noncomputable def X_code_Check_J1 (x134 : Int) (x149 : Int) : Option ((Int × Int) ⊕ ((Int × (List T_api_Ins) × (List T_api_Def) × (List T_api_Chan) × Int × Int × Int × Int × Int × Int) ⊕ (Int × Int))) :=
  some (.inl ((w64 (x134 + 1)), x149))
noncomputable def X_code_Check_L2 (p0 : T_api_Code) (x87 : Int) (y133 : T_code_checker) (x134 : Int) (x135 : Int) : Option ((Int × Int) ⊕ ((Int × (List T_api_Ins) × (List T_api_Def) × (List T_api_Chan) × Int × Int × Int × Int × Int × Int) ⊕ (Int × Int))) :=
  cond (decide (x134 < y133.to)) ((X_code_checker_may x134 (⟨y133.Code, x135, y133.from_, y133.to, y133.vars⟩ : T_code_checker)).bind fun y154 => cond (!y154) (((some (x134, 15)).map Sum.inr).map Sum.inr) ((lAt p0.Ins x134).bind fun y161 => cond (y161.Op == 1) (X_code_Check_J1 x134 (w64 (x135 + 1))) (X_code_Check_J1 x134 x135))) ((some (.inl ((w64 (x87 + 1)), y133.Code.Ins, y133.Code.Defs, y133.Code.Chans, y133.Code.Main, y133.Code.Stmts, x135, y133.from_, y133.to, y133.vars))).map Sum.inr)
noncomputable def X_code_Check_L3 (p0 : T_api_Code) (x197 : Int) (x198 : (List T_api_Ins)) (x199 : (List T_api_Def)) (x200 : (List T_api_Chan)) (x201 : Int) (x202 : Int) (x203 : Int) (x204 : Int) (x205 : Int) (x206 : Int) : Option ((Int × (List T_api_Ins) × (List T_api_Def) × (List T_api_Chan) × Int × Int × Int × Int × Int × Int) ⊕ (Int × Int)) :=
  cond (decide (x197 < ((p0.Defs).length : Int))) ((X_code_checker_routine x197 (⟨(⟨x198, x199, x200, x201, x202⟩ : T_api_Code), x203, x204, x205, x206⟩ : T_code_checker)).bind fun y217 => (X_code_checker_flow y217).bind fun y219 => cond (!y219.2) ((some (y219.1, 14)).map Sum.inr) (some (.inl ((w64 (x197 + 1)), y217.Code.Ins, y217.Code.Defs, y217.Code.Chans, y217.Code.Main, y217.Code.Stmts, y217.marks, y217.from_, y217.to, y217.vars)))) ((some (0, 0)).map Sum.inr)
noncomputable def X_code_Check_L4 (p0 : T_api_Code) (x87 : Int) (x88 : (List T_api_Ins)) (x89 : (List T_api_Def)) (x90 : (List T_api_Chan)) (x91 : Int) (x92 : Int) (x93 : Int) (x94 : Int) (x95 : Int) (x96 : Int) : Option ((Int × (List T_api_Ins) × (List T_api_Def) × (List T_api_Chan) × Int × Int × Int × Int × Int × Int) ⊕ (Int × Int)) :=
  cond (decide (x87 < ((p0.Defs).length : Int))) ((X_code_checker_routine x87 (⟨(⟨x88, x89, x90, x91, x92⟩ : T_api_Code), x93, x94, x95, x96⟩ : T_code_checker)).bind fun y133 => Loopx (fun s : (Int × Int) => X_code_Check_L2 p0 x87 y133 s.1 s.2) (y133.from_, y133.marks)) ((cond (x93 != p0.Stmts) (some (0, 3)) (Loopx (fun s : (Int × (List T_api_Ins) × (List T_api_Def) × (List T_api_Chan) × Int × Int × Int × Int × Int × Int) => X_code_Check_L3 p0 s.1 s.2.1 s.2.2.1 s.2.2.2.1 s.2.2.2.2.1 s.2.2.2.2.2.1 s.2.2.2.2.2.2.1 s.2.2.2.2.2.2.2.1 s.2.2.2.2.2.2.2.2.1 s.2.2.2.2.2.2.2.2.2) (0, x88, x89, x90, x91, x92, x93, x94, x95, x96))).map Sum.inr)
noncomputable def X_code_Check (p0 : T_api_Code) : Option (Int × Int) :=
  (X_code_tables p0).bind fun y5 => cond (!y5) (some (0, 3)) (Loopx (fun s : (Int × (List T_api_Ins) × (List T_api_Def) × (List T_api_Chan) × Int × Int × Int × Int × Int × Int) => X_code_Check_L4 p0 s.1 s.2.1 s.2.2.1 s.2.2.2.1 s.2.2.2.2.1 s.2.2.2.2.2.1 s.2.2.2.2.2.2.1 s.2.2.2.2.2.2.2.1 s.2.2.2.2.2.2.2.2.1 s.2.2.2.2.2.2.2.2.2) (0, p0.Ins, p0.Defs, p0.Chans, p0.Main, p0.Stmts, 0, 0, 0, 0))
noncomputable def X_slices_Backward_retrace_api_Def_retrace_api_Def (p0 : (List T_api_Def)) : Option ((List T_api_Def)) :=
  some p0
noncomputable def X_R_code_Routine_0 (p0 : Int) (p1 : T_api_Def) (o1_0 : Int) (o2_0 : Int) : Option ((Int) ⊕ (Unit)) :=
  cond (decide (p1.Entry ≤ o1_0)) (some (.inl p0)) (some (.inr ()))
noncomputable def X_slices_Backward_retrace_api_Def_retrace_api_Def_1_J1 (x19 : Int) : Option ((Int) ⊕ ((Int) ⊕ (Unit))) :=
  (some (.inl x19)).map Sum.inr
noncomputable def X_slices_Backward_retrace_api_Def_retrace_api_Def_1_J2 (x1 : Int) : Option ((Int) ⊕ ((Int) ⊕ (Unit))) :=
  some (.inl (w64 (x1 - 1)))
noncomputable def X_slices_Backward_retrace_api_Def_retrace_api_Def_1_L3 (o1_0 : Int) (o2_0 : Int) (o3_0 : (List T_api_Def)) (x1 : Int) : Option ((Int) ⊕ ((Int) ⊕ (Unit))) :=
  cond (decide (0 ≤ x1)) ((lAt o3_0 x1).bind fun y22 => (X_R_code_Routine_0 x1 y22 o1_0 o2_0).bind fun y23 => (Sum.elim (fun y24 => X_slices_Backward_retrace_api_Def_retrace_api_Def_1_J1 y24) (fun y25 => X_slices_Backward_retrace_api_Def_retrace_api_Def_1_J2 x1)) y23) ((some (.inr ())).map Sum.inr)
noncomputable def X_slices_Backward_retrace_api_Def_retrace_api_Def_1 (o1_0 : Int) (o2_0 : Int) (o3_0 : (List T_api_Def)) : Option ((Int) ⊕ (Unit)) :=
  Loopx (fun s : (Int) => X_slices_Backward_retrace_api_Def_retrace_api_Def_1_L3 o1_0 o2_0 o3_0 s) (w64 (((o3_0).length : Int) - 1))
noncomputable def X_code_Routine_J1 (p0 : T_api_Code) (p1 : Int) (x6 : Bool) : Option (Int) :=
  cond x6 (some (-1)) ((X_slices_Backward_retrace_api_Def_retrace_api_Def p0.Defs).bind fun y14 => (X_slices_Backward_retrace_api_Def_retrace_api_Def_1 p1 0 y14).bind fun y15 => (Sum.elim (fun y16 => some y16) (fun y17 => some (-1))) y15)
noncomputable def X_code_Routine (p0 : T_api_Code) (p1 : Int) : Option (Int) :=
  cond (decide (p1 < 0)) (X_code_Routine_J1 p0 p1 true) (X_code_Routine_J1 p0 p1 (decide (((p0.Ins).length : Int) ≤ p1)))
noncomputable def X_code_Stmt_J1 (p0 : T_api_Code) (p1 : Int) (x12 : Bool) : Option (Int) :=
  cond x12 (some (-1)) ((lAt p0.Ins p1).bind fun y15 => some y15.A)
noncomputable def X_code_Stmt (p0 : T_api_Code) (p1 : Int) : Option (Int) :=
  cond (decide (p1 < 0)) (X_code_Stmt_J1 p0 p1 true) (cond (decide (((p0.Ins).length : Int) ≤ p1)) (X_code_Stmt_J1 p0 p1 true) ((lAt p0.Ins p1).bind fun y18 => X_code_Stmt_J1 p0 p1 (y18.Op != 1)))
noncomputable def X_retracelaw20_live_J1 (x13 : Bool) : Option (Bool) :=
  some x13
noncomputable def X_retracelaw20_live  : Option (Bool) :=
  (X_code_Check (⟨[(⟨1, 0, 0⟩ : T_api_Ins), (⟨2, 1, 0⟩ : T_api_Ins), (⟨24, 0, 0⟩ : T_api_Ins)], [(⟨(⟨#[109, 97, 105, 110]⟩ : ByteArray), 0, 0, 0⟩ : T_api_Def)], ([] : (List T_api_Chan)), 0, 1⟩ : T_api_Code)).bind fun y2 => (lAt ([(⟨1, 0, 0⟩ : T_api_Ins), (⟨2, 1, 0⟩ : T_api_Ins), (⟨24, 0, 0⟩ : T_api_Ins)]) 1).bind fun y4 => (X_code_Check (⟨(List.set ([(⟨1, 0, 0⟩ : T_api_Ins), (⟨2, 1, 0⟩ : T_api_Ins), (⟨24, 0, 0⟩ : T_api_Ins)]) (Int.toNat 1) (⟨17, 0, 0⟩ : T_api_Ins)), [(⟨(⟨#[109, 97, 105, 110]⟩ : ByteArray), 0, 0, 0⟩ : T_api_Def)], ([] : (List T_api_Chan)), 0, 1⟩ : T_api_Code)).bind fun y6 => cond (y2.1 == 2) (cond (y2.2 == 14) (cond (y6.2 == 0) ((X_code_Routine (⟨(List.set ([(⟨1, 0, 0⟩ : T_api_Ins), (⟨2, 1, 0⟩ : T_api_Ins), (⟨24, 0, 0⟩ : T_api_Ins)]) (Int.toNat 1) (⟨17, 0, 0⟩ : T_api_Ins)), [(⟨(⟨#[109, 97, 105, 110]⟩ : ByteArray), 0, 0, 0⟩ : T_api_Def)], ([] : (List T_api_Chan)), 0, 1⟩ : T_api_Code) 1).bind fun y17 => cond (y17 == 0) ((X_code_Stmt (⟨(List.set ([(⟨1, 0, 0⟩ : T_api_Ins), (⟨2, 1, 0⟩ : T_api_Ins), (⟨24, 0, 0⟩ : T_api_Ins)]) (Int.toNat 1) (⟨17, 0, 0⟩ : T_api_Ins)), [(⟨(⟨#[109, 97, 105, 110]⟩ : ByteArray), 0, 0, 0⟩ : T_api_Def)], ([] : (List T_api_Chan)), 0, 1⟩ : T_api_Code) 0).bind fun y19 => X_retracelaw20_live_J1 (y19 == 0)) (X_retracelaw20_live_J1 false)) (X_retracelaw20_live_J1 false)) (X_retracelaw20_live_J1 false)) (X_retracelaw20_live_J1 false)
theorem LE_token_letter_J1 (x3 : Bool) : Le (X_token_letter_J1 x3) (F_token_letter_J1 x3) := by
  unfold X_token_letter_J1 F_token_letter_J1
  repeat' with_reducible first
    | exact Le.non _
    | exact Le.rf _
    | refine Le.grd ?_
    | refine Le.bind ?_ (fun _ => ?_)
    | refine Le.cond ?_ ?_
    | refine Le.map ?_
    | refine Le.elim (fun _ => ?_) (fun _ => ?_)
    | refine Le.lt (fun _ => ?_)
    | refine Le.loop (fun _ => ?_)
    | refine Le.loopF (fun _ => ?_)
theorem LE_token_letter (p0 : Int) : Le (X_token_letter p0) (F_token_letter p0) := by
  unfold X_token_letter F_token_letter
  repeat' with_reducible first
    | apply LE_token_letter_J1
    | exact Le.non _
    | exact Le.rf _
    | refine Le.grd ?_
    | refine Le.bind ?_ (fun _ => ?_)
    | refine Le.cond ?_ ?_
    | refine Le.map ?_
    | refine Le.elim (fun _ => ?_) (fun _ => ?_)
    | refine Le.lt (fun _ => ?_)
    | refine Le.loop (fun _ => ?_)
    | refine Le.loopF (fun _ => ?_)
theorem LE_token_digit_J1 (x2 : Bool) : Le (X_token_digit_J1 x2) (F_token_digit_J1 x2) := by
  unfold X_token_digit_J1 F_token_digit_J1
  repeat' with_reducible first
    | exact Le.non _
    | exact Le.rf _
    | refine Le.grd ?_
    | refine Le.bind ?_ (fun _ => ?_)
    | refine Le.cond ?_ ?_
    | refine Le.map ?_
    | refine Le.elim (fun _ => ?_) (fun _ => ?_)
    | refine Le.lt (fun _ => ?_)
    | refine Le.loop (fun _ => ?_)
    | refine Le.loopF (fun _ => ?_)
theorem LE_token_digit (p0 : Int) : Le (X_token_digit p0) (F_token_digit p0) := by
  unfold X_token_digit F_token_digit
  repeat' with_reducible first
    | apply LE_token_digit_J1
    | exact Le.non _
    | exact Le.rf _
    | refine Le.grd ?_
    | refine Le.bind ?_ (fun _ => ?_)
    | refine Le.cond ?_ ?_
    | refine Le.map ?_
    | refine Le.elim (fun _ => ?_) (fun _ => ?_)
    | refine Le.lt (fun _ => ?_)
    | refine Le.loop (fun _ => ?_)
    | refine Le.loopF (fun _ => ?_)
theorem LE_token_wordly_J1 (x4 : Bool) : Le (X_token_wordly_J1 x4) (F_token_wordly_J1 x4) := by
  unfold X_token_wordly_J1 F_token_wordly_J1
  repeat' with_reducible first
    | exact Le.non _
    | exact Le.rf _
    | refine Le.grd ?_
    | refine Le.bind ?_ (fun _ => ?_)
    | refine Le.cond ?_ ?_
    | refine Le.map ?_
    | refine Le.elim (fun _ => ?_) (fun _ => ?_)
    | refine Le.lt (fun _ => ?_)
    | refine Le.loop (fun _ => ?_)
    | refine Le.loopF (fun _ => ?_)
theorem LE_token_wordly (p0 : Int) : Le (X_token_wordly p0) (F_token_wordly p0) := by
  unfold X_token_wordly F_token_wordly
  repeat' with_reducible first
    | apply LE_token_letter
    | apply LE_token_wordly_J1
    | apply LE_token_digit
    | exact Le.non _
    | exact Le.rf _
    | refine Le.grd ?_
    | refine Le.bind ?_ (fun _ => ?_)
    | refine Le.cond ?_ ?_
    | refine Le.map ?_
    | refine Le.elim (fun _ => ?_) (fun _ => ?_)
    | refine Le.lt (fun _ => ?_)
    | refine Le.loop (fun _ => ?_)
    | refine Le.loopF (fun _ => ?_)
theorem LE_token_run_L1 (p0 : ByteArray) (x24 : Int) : Le (X_token_run_L1 p0 x24) (F_token_run_L1 p0 x24) := by
  unfold X_token_run_L1 F_token_run_L1
  repeat' with_reducible first
    | apply LE_token_wordly
    | exact Le.non _
    | exact Le.rf _
    | refine Le.grd ?_
    | refine Le.bind ?_ (fun _ => ?_)
    | refine Le.cond ?_ ?_
    | refine Le.map ?_
    | refine Le.elim (fun _ => ?_) (fun _ => ?_)
    | refine Le.lt (fun _ => ?_)
    | refine Le.loop (fun _ => ?_)
    | refine Le.loopF (fun _ => ?_)
theorem LE_token_run (p0 : ByteArray) : Le (X_token_run p0) (F_token_run p0) := by
  unfold X_token_run F_token_run
  repeat' with_reducible first
    | apply LE_token_run_L1
    | exact Le.non _
    | exact Le.rf _
    | refine Le.grd ?_
    | refine Le.bind ?_ (fun _ => ?_)
    | refine Le.cond ?_ ?_
    | refine Le.map ?_
    | refine Le.elim (fun _ => ?_) (fun _ => ?_)
    | refine Le.lt (fun _ => ?_)
    | refine Le.loop (fun _ => ?_)
    | refine Le.loopF (fun _ => ?_)
theorem LE_token_words  : Le (X_token_words ) (F_token_words ) := by
  unfold X_token_words F_token_words
  repeat' with_reducible first
    | exact Le.non _
    | exact Le.rf _
    | refine Le.grd ?_
    | refine Le.bind ?_ (fun _ => ?_)
    | refine Le.cond ?_ ?_
    | refine Le.map ?_
    | refine Le.elim (fun _ => ?_) (fun _ => ?_)
    | refine Le.lt (fun _ => ?_)
    | refine Le.loop (fun _ => ?_)
    | refine Le.loopF (fun _ => ?_)
theorem LE_cmp_isNaN_string (p0 : ByteArray) : Le (X_cmp_isNaN_string p0) (F_cmp_isNaN_string p0) := by
  unfold X_cmp_isNaN_string F_cmp_isNaN_string
  repeat' with_reducible first
    | exact Le.non _
    | exact Le.rf _
    | refine Le.grd ?_
    | refine Le.bind ?_ (fun _ => ?_)
    | refine Le.cond ?_ ?_
    | refine Le.map ?_
    | refine Le.elim (fun _ => ?_) (fun _ => ?_)
    | refine Le.lt (fun _ => ?_)
    | refine Le.loop (fun _ => ?_)
    | refine Le.loopF (fun _ => ?_)
theorem LE_cmp_Less_string_J1 (x5 : Bool) : Le (X_cmp_Less_string_J1 x5) (F_cmp_Less_string_J1 x5) := by
  unfold X_cmp_Less_string_J1 F_cmp_Less_string_J1
  repeat' with_reducible first
    | exact Le.non _
    | exact Le.rf _
    | refine Le.grd ?_
    | refine Le.bind ?_ (fun _ => ?_)
    | refine Le.cond ?_ ?_
    | refine Le.map ?_
    | refine Le.elim (fun _ => ?_) (fun _ => ?_)
    | refine Le.lt (fun _ => ?_)
    | refine Le.loop (fun _ => ?_)
    | refine Le.loopF (fun _ => ?_)
theorem LE_cmp_Less_string (p0 : ByteArray) (p1 : ByteArray) : Le (X_cmp_Less_string p0 p1) (F_cmp_Less_string p0 p1) := by
  unfold X_cmp_Less_string F_cmp_Less_string
  repeat' with_reducible first
    | apply LE_cmp_isNaN_string
    | apply LE_cmp_Less_string_J1
    | exact Le.non _
    | exact Le.rf _
    | refine Le.grd ?_
    | refine Le.bind ?_ (fun _ => ?_)
    | refine Le.cond ?_ ?_
    | refine Le.map ?_
    | refine Le.elim (fun _ => ?_) (fun _ => ?_)
    | refine Le.lt (fun _ => ?_)
    | refine Le.loop (fun _ => ?_)
    | refine Le.loopF (fun _ => ?_)
theorem LE_slices_isNaN_string (p0 : ByteArray) : Le (X_slices_isNaN_string p0) (F_slices_isNaN_string p0) := by
  unfold X_slices_isNaN_string F_slices_isNaN_string
  repeat' with_reducible first
    | exact Le.non _
    | exact Le.rf _
    | refine Le.grd ?_
    | refine Le.bind ?_ (fun _ => ?_)
    | refine Le.cond ?_ ?_
    | refine Le.map ?_
    | refine Le.elim (fun _ => ?_) (fun _ => ?_)
    | refine Le.lt (fun _ => ?_)
    | refine Le.loop (fun _ => ?_)
    | refine Le.loopF (fun _ => ?_)
theorem LE_slices_BinarySearch_string_string_J1 (x14 : Int) (x34 : Bool) : Le (X_slices_BinarySearch_string_string_J1 x14 x34) (F_slices_BinarySearch_string_string_J1 x14 x34) := by
  unfold X_slices_BinarySearch_string_string_J1 F_slices_BinarySearch_string_string_J1
  repeat' with_reducible first
    | exact Le.non _
    | exact Le.rf _
    | refine Le.grd ?_
    | refine Le.bind ?_ (fun _ => ?_)
    | refine Le.cond ?_ ?_
    | refine Le.map ?_
    | refine Le.elim (fun _ => ?_) (fun _ => ?_)
    | refine Le.lt (fun _ => ?_)
    | refine Le.loop (fun _ => ?_)
    | refine Le.loopF (fun _ => ?_)
theorem LE_slices_BinarySearch_string_string_L2 (p1 : ByteArray) (o0 : (List ByteArray)) (x14 : Int) (x15 : Int) : Le (X_slices_BinarySearch_string_string_L2 p1 o0 x14 x15) (F_slices_BinarySearch_string_string_L2 p1 o0 x14 x15) := by
  unfold X_slices_BinarySearch_string_string_L2 F_slices_BinarySearch_string_string_L2
  repeat' with_reducible first
    | apply LE_cmp_Less_string
    | apply LE_slices_BinarySearch_string_string_J1
    | apply LE_slices_isNaN_string
    | exact Le.non _
    | exact Le.rf _
    | refine Le.grd ?_
    | refine Le.bind ?_ (fun _ => ?_)
    | refine Le.cond ?_ ?_
    | refine Le.map ?_
    | refine Le.elim (fun _ => ?_) (fun _ => ?_)
    | refine Le.lt (fun _ => ?_)
    | refine Le.loop (fun _ => ?_)
    | refine Le.loopF (fun _ => ?_)
theorem LE_slices_BinarySearch_string_string (p1 : ByteArray) (o0 : (List ByteArray)) : Le (X_slices_BinarySearch_string_string p1 o0) (F_slices_BinarySearch_string_string p1 o0) := by
  unfold X_slices_BinarySearch_string_string F_slices_BinarySearch_string_string
  repeat' with_reducible first
    | apply LE_slices_BinarySearch_string_string_L2
    | exact Le.non _
    | exact Le.rf _
    | refine Le.grd ?_
    | refine Le.bind ?_ (fun _ => ?_)
    | refine Le.cond ?_ ?_
    | refine Le.map ?_
    | refine Le.elim (fun _ => ?_) (fun _ => ?_)
    | refine Le.lt (fun _ => ?_)
    | refine Le.loop (fun _ => ?_)
    | refine Le.loopF (fun _ => ?_)
theorem LE_token_Word (p0 : ByteArray) : Le (X_token_Word p0) (F_token_Word p0) := by
  unfold X_token_Word F_token_Word
  repeat' with_reducible first
    | apply LE_token_words
    | apply LE_slices_BinarySearch_string_string
    | exact Le.non _
    | exact Le.rf _
    | refine Le.grd ?_
    | refine Le.bind ?_ (fun _ => ?_)
    | refine Le.cond ?_ ?_
    | refine Le.map ?_
    | refine Le.elim (fun _ => ?_) (fun _ => ?_)
    | refine Le.lt (fun _ => ?_)
    | refine Le.loop (fun _ => ?_)
    | refine Le.loopF (fun _ => ?_)
theorem LE_token_Name_J1 (x9 : Bool) : Le (X_token_Name_J1 x9) (F_token_Name_J1 x9) := by
  unfold X_token_Name_J1 F_token_Name_J1
  repeat' with_reducible first
    | exact Le.non _
    | exact Le.rf _
    | refine Le.grd ?_
    | refine Le.bind ?_ (fun _ => ?_)
    | refine Le.cond ?_ ?_
    | refine Le.map ?_
    | refine Le.elim (fun _ => ?_) (fun _ => ?_)
    | refine Le.lt (fun _ => ?_)
    | refine Le.loop (fun _ => ?_)
    | refine Le.loopF (fun _ => ?_)
theorem LE_token_Name (p0 : ByteArray) : Le (X_token_Name p0) (F_token_Name p0) := by
  unfold X_token_Name F_token_Name
  repeat' with_reducible first
    | apply LE_token_letter
    | apply LE_token_run
    | apply LE_token_Word
    | apply LE_token_Name_J1
    | exact Le.non _
    | exact Le.rf _
    | refine Le.grd ?_
    | refine Le.bind ?_ (fun _ => ?_)
    | refine Le.cond ?_ ?_
    | refine Le.map ?_
    | refine Le.elim (fun _ => ?_) (fun _ => ?_)
    | refine Le.lt (fun _ => ?_)
    | refine Le.loop (fun _ => ?_)
    | refine Le.loopF (fun _ => ?_)
theorem LE_code_tables_J3 (x144 : Int) (y205 : T_api_Def) (x244 : Bool) : Le (X_code_tables_J3 x144 y205 x244) (F_code_tables_J3 x144 y205 x244) := by
  unfold X_code_tables_J3 F_code_tables_J3
  repeat' with_reducible first
    | exact Le.non _
    | exact Le.rf _
    | refine Le.grd ?_
    | refine Le.bind ?_ (fun _ => ?_)
    | refine Le.cond ?_ ?_
    | refine Le.map ?_
    | refine Le.elim (fun _ => ?_) (fun _ => ?_)
    | refine Le.lt (fun _ => ?_)
    | refine Le.loop (fun _ => ?_)
    | refine Le.loopF (fun _ => ?_)
theorem LE_code_tables_J2 (p0 : T_api_Code) (x143 : Int) (x144 : Int) (y205 : T_api_Def) (x208 : Bool) : Le (X_code_tables_J2 p0 x143 x144 y205 x208) (F_code_tables_J2 p0 x143 x144 y205 x208) := by
  unfold X_code_tables_J2 F_code_tables_J2
  repeat' with_reducible first
    | apply LE_code_tables_J3
    | exact Le.non _
    | exact Le.rf _
    | refine Le.grd ?_
    | refine Le.bind ?_ (fun _ => ?_)
    | refine Le.cond ?_ ?_
    | refine Le.map ?_
    | refine Le.elim (fun _ => ?_) (fun _ => ?_)
    | refine Le.lt (fun _ => ?_)
    | refine Le.loop (fun _ => ?_)
    | refine Le.loopF (fun _ => ?_)
theorem LE_code_tables_J4 (x321 : Int) (x322 : Int) (y351 : T_api_Chan) (x366 : Bool) : Le (X_code_tables_J4 x321 x322 y351 x366) (F_code_tables_J4 x321 x322 y351 x366) := by
  unfold X_code_tables_J4 F_code_tables_J4
  repeat' with_reducible first
    | exact Le.non _
    | exact Le.rf _
    | refine Le.grd ?_
    | refine Le.bind ?_ (fun _ => ?_)
    | refine Le.cond ?_ ?_
    | refine Le.map ?_
    | refine Le.elim (fun _ => ?_) (fun _ => ?_)
    | refine Le.lt (fun _ => ?_)
    | refine Le.loop (fun _ => ?_)
    | refine Le.loopF (fun _ => ?_)
theorem LE_code_tables_L5 (p0 : T_api_Code) (x321 : Int) (x322 : Int) : Le (X_code_tables_L5 p0 x321 x322) (F_code_tables_L5 p0 x321 x322) := by
  unfold X_code_tables_L5 F_code_tables_L5
  repeat' with_reducible first
    | apply LE_token_Name
    | apply LE_code_tables_J4
    | exact Le.non _
    | exact Le.rf _
    | refine Le.grd ?_
    | refine Le.bind ?_ (fun _ => ?_)
    | refine Le.cond ?_ ?_
    | refine Le.map ?_
    | refine Le.elim (fun _ => ?_) (fun _ => ?_)
    | refine Le.lt (fun _ => ?_)
    | refine Le.loop (fun _ => ?_)
    | refine Le.loopF (fun _ => ?_)
theorem LE_code_tables_L6 (p0 : T_api_Code) (x143 : Int) (x144 : Int) : Le (X_code_tables_L6 p0 x143 x144) (F_code_tables_L6 p0 x143 x144) := by
  unfold X_code_tables_L6 F_code_tables_L6
  repeat' with_reducible first
    | apply LE_code_tables_J2
    | apply LE_token_Name
    | apply LE_code_tables_L5
    | exact Le.non _
    | exact Le.rf _
    | refine Le.grd ?_
    | refine Le.bind ?_ (fun _ => ?_)
    | refine Le.cond ?_ ?_
    | refine Le.map ?_
    | refine Le.elim (fun _ => ?_) (fun _ => ?_)
    | refine Le.lt (fun _ => ?_)
    | refine Le.loop (fun _ => ?_)
    | refine Le.loopF (fun _ => ?_)
theorem LE_code_tables_J1 (p0 : T_api_Code) (x21 : Bool) : Le (X_code_tables_J1 p0 x21) (F_code_tables_J1 p0 x21) := by
  unfold X_code_tables_J1 F_code_tables_J1
  repeat' with_reducible first
    | apply LE_code_tables_L6
    | exact Le.non _
    | exact Le.rf _
    | refine Le.grd ?_
    | refine Le.bind ?_ (fun _ => ?_)
    | refine Le.cond ?_ ?_
    | refine Le.map ?_
    | refine Le.elim (fun _ => ?_) (fun _ => ?_)
    | refine Le.lt (fun _ => ?_)
    | refine Le.loop (fun _ => ?_)
    | refine Le.loopF (fun _ => ?_)
theorem LE_code_tables (p0 : T_api_Code) : Le (X_code_tables p0) (F_code_tables p0) := by
  unfold X_code_tables F_code_tables
  repeat' with_reducible first
    | apply LE_code_tables_J1
    | exact Le.non _
    | exact Le.rf _
    | refine Le.grd ?_
    | refine Le.bind ?_ (fun _ => ?_)
    | refine Le.cond ?_ ?_
    | refine Le.map ?_
    | refine Le.elim (fun _ => ?_) (fun _ => ?_)
    | refine Le.lt (fun _ => ?_)
    | refine Le.loop (fun _ => ?_)
    | refine Le.loopF (fun _ => ?_)
theorem LE_code_checker_routine (p1 : Int) (o0 : T_code_checker) : Le (X_code_checker_routine p1 o0) (F_code_checker_routine p1 o0) := by
  unfold X_code_checker_routine F_code_checker_routine
  repeat' with_reducible first
    | exact Le.non _
    | exact Le.rf _
    | refine Le.grd ?_
    | refine Le.bind ?_ (fun _ => ?_)
    | refine Le.cond ?_ ?_
    | refine Le.map ?_
    | refine Le.elim (fun _ => ?_) (fun _ => ?_)
    | refine Le.lt (fun _ => ?_)
    | refine Le.loop (fun _ => ?_)
    | refine Le.loopF (fun _ => ?_)
theorem LE_ins_rows  : Le (X_ins_rows ) (F_ins_rows ) := by
  unfold X_ins_rows F_ins_rows
  repeat' with_reducible first
    | exact Le.non _
    | exact Le.rf _
    | refine Le.grd ?_
    | refine Le.bind ?_ (fun _ => ?_)
    | refine Le.cond ?_ ?_
    | refine Le.map ?_
    | refine Le.elim (fun _ => ?_) (fun _ => ?_)
    | refine Le.lt (fun _ => ?_)
    | refine Le.loop (fun _ => ?_)
    | refine Le.loopF (fun _ => ?_)
theorem LE_ins_find_J1 (p0 : Int) (x6 : Bool) : Le (X_ins_find_J1 p0 x6) (F_ins_find_J1 p0 x6) := by
  unfold X_ins_find_J1 F_ins_find_J1
  repeat' with_reducible first
    | apply LE_ins_rows
    | exact Le.non _
    | exact Le.rf _
    | refine Le.grd ?_
    | refine Le.bind ?_ (fun _ => ?_)
    | refine Le.cond ?_ ?_
    | refine Le.map ?_
    | refine Le.elim (fun _ => ?_) (fun _ => ?_)
    | refine Le.lt (fun _ => ?_)
    | refine Le.loop (fun _ => ?_)
    | refine Le.loopF (fun _ => ?_)
theorem LE_ins_find (p0 : Int) : Le (X_ins_find p0) (F_ins_find p0) := by
  unfold X_ins_find F_ins_find
  repeat' with_reducible first
    | apply LE_ins_find_J1
    | exact Le.non _
    | exact Le.rf _
    | refine Le.grd ?_
    | refine Le.bind ?_ (fun _ => ?_)
    | refine Le.cond ?_ ?_
    | refine Le.map ?_
    | refine Le.elim (fun _ => ?_) (fun _ => ?_)
    | refine Le.lt (fun _ => ?_)
    | refine Le.loop (fun _ => ?_)
    | refine Le.loopF (fun _ => ?_)
theorem LE_arith_Wide_J2 (x13 : Bool) : Le (X_arith_Wide_J2 x13) (F_arith_Wide_J2 x13) := by
  unfold X_arith_Wide_J2 F_arith_Wide_J2
  repeat' with_reducible first
    | exact Le.non _
    | exact Le.rf _
    | refine Le.grd ?_
    | refine Le.bind ?_ (fun _ => ?_)
    | refine Le.cond ?_ ?_
    | refine Le.map ?_
    | refine Le.elim (fun _ => ?_) (fun _ => ?_)
    | refine Le.lt (fun _ => ?_)
    | refine Le.loop (fun _ => ?_)
    | refine Le.loopF (fun _ => ?_)
theorem LE_arith_Wide_J1 (p0 : Int) (x10 : Bool) : Le (X_arith_Wide_J1 p0 x10) (F_arith_Wide_J1 p0 x10) := by
  unfold X_arith_Wide_J1 F_arith_Wide_J1
  repeat' with_reducible first
    | apply LE_arith_Wide_J2
    | exact Le.non _
    | exact Le.rf _
    | refine Le.grd ?_
    | refine Le.bind ?_ (fun _ => ?_)
    | refine Le.cond ?_ ?_
    | refine Le.map ?_
    | refine Le.elim (fun _ => ?_) (fun _ => ?_)
    | refine Le.lt (fun _ => ?_)
    | refine Le.loop (fun _ => ?_)
    | refine Le.loopF (fun _ => ?_)
theorem LE_arith_Wide (p0 : Int) : Le (X_arith_Wide p0) (F_arith_Wide p0) := by
  unfold X_arith_Wide F_arith_Wide
  repeat' with_reducible first
    | apply LE_arith_Wide_J1
    | exact Le.non _
    | exact Le.rf _
    | refine Le.grd ?_
    | refine Le.bind ?_ (fun _ => ?_)
    | refine Le.cond ?_ ?_
    | refine Le.map ?_
    | refine Le.elim (fun _ => ?_) (fun _ => ?_)
    | refine Le.lt (fun _ => ?_)
    | refine Le.loop (fun _ => ?_)
    | refine Le.loopF (fun _ => ?_)
theorem LE_ins_Right_J2 (x28 : Bool) : Le (X_ins_Right_J2 x28) (F_ins_Right_J2 x28) := by
  unfold X_ins_Right_J2 F_ins_Right_J2
  repeat' with_reducible first
    | exact Le.non _
    | exact Le.rf _
    | refine Le.grd ?_
    | refine Le.bind ?_ (fun _ => ?_)
    | refine Le.cond ?_ ?_
    | refine Le.map ?_
    | refine Le.elim (fun _ => ?_) (fun _ => ?_)
    | refine Le.lt (fun _ => ?_)
    | refine Le.loop (fun _ => ?_)
    | refine Le.loopF (fun _ => ?_)
theorem LE_ins_Right_J1 (p0 : T_api_Ins) (x20 : Bool) : Le (X_ins_Right_J1 p0 x20) (F_ins_Right_J1 p0 x20) := by
  unfold X_ins_Right_J1 F_ins_Right_J1
  repeat' with_reducible first
    | apply LE_ins_Right_J2
    | apply LE_arith_Wide
    | exact Le.non _
    | exact Le.rf _
    | refine Le.grd ?_
    | refine Le.bind ?_ (fun _ => ?_)
    | refine Le.cond ?_ ?_
    | refine Le.map ?_
    | refine Le.elim (fun _ => ?_) (fun _ => ?_)
    | refine Le.lt (fun _ => ?_)
    | refine Le.loop (fun _ => ?_)
    | refine Le.loopF (fun _ => ?_)
theorem LE_ins_Right (p0 : T_api_Ins) : Le (X_ins_Right p0) (F_ins_Right p0) := by
  unfold X_ins_Right F_ins_Right
  repeat' with_reducible first
    | apply LE_ins_find
    | apply LE_ins_Right_J1
    | exact Le.non _
    | exact Le.rf _
    | refine Le.grd ?_
    | refine Le.bind ?_ (fun _ => ?_)
    | refine Le.cond ?_ ?_
    | refine Le.map ?_
    | refine Le.elim (fun _ => ?_) (fun _ => ?_)
    | refine Le.lt (fun _ => ?_)
    | refine Le.loop (fun _ => ?_)
    | refine Le.loopF (fun _ => ?_)
theorem LE_code_checker_may_1_J1 (x2 : Bool) : Le (X_code_checker_may_1_J1 x2) (F_code_checker_may_1_J1 x2) := by
  unfold X_code_checker_may_1_J1 F_code_checker_may_1_J1
  repeat' with_reducible first
    | exact Le.non _
    | exact Le.rf _
    | refine Le.grd ?_
    | refine Le.bind ?_ (fun _ => ?_)
    | refine Le.cond ?_ ?_
    | refine Le.map ?_
    | refine Le.elim (fun _ => ?_) (fun _ => ?_)
    | refine Le.lt (fun _ => ?_)
    | refine Le.loop (fun _ => ?_)
    | refine Le.loopF (fun _ => ?_)
theorem LE_code_checker_may_1 (p0 : T_api_Chan) (o0 : T_api_Ins) : Le (X_code_checker_may_1 p0 o0) (F_code_checker_may_1 p0 o0) := by
  unfold X_code_checker_may_1 F_code_checker_may_1
  repeat' with_reducible first
    | apply LE_code_checker_may_1_J1
    | exact Le.non _
    | exact Le.rf _
    | refine Le.grd ?_
    | refine Le.bind ?_ (fun _ => ?_)
    | refine Le.cond ?_ ?_
    | refine Le.map ?_
    | refine Le.elim (fun _ => ?_) (fun _ => ?_)
    | refine Le.lt (fun _ => ?_)
    | refine Le.loop (fun _ => ?_)
    | refine Le.loopF (fun _ => ?_)
theorem LE_slices_IndexFunc_retrace_api_Chan_retrace_api_Chan_L1 (p0 : (List T_api_Chan)) (o0 : T_api_Ins) (x20 : Int) : Le (X_slices_IndexFunc_retrace_api_Chan_retrace_api_Chan_L1 p0 o0 x20) (F_slices_IndexFunc_retrace_api_Chan_retrace_api_Chan_L1 p0 o0 x20) := by
  unfold X_slices_IndexFunc_retrace_api_Chan_retrace_api_Chan_L1 F_slices_IndexFunc_retrace_api_Chan_retrace_api_Chan_L1
  repeat' with_reducible first
    | apply LE_code_checker_may_1
    | exact Le.non _
    | exact Le.rf _
    | refine Le.grd ?_
    | refine Le.bind ?_ (fun _ => ?_)
    | refine Le.cond ?_ ?_
    | refine Le.map ?_
    | refine Le.elim (fun _ => ?_) (fun _ => ?_)
    | refine Le.lt (fun _ => ?_)
    | refine Le.loop (fun _ => ?_)
    | refine Le.loopF (fun _ => ?_)
theorem LE_slices_IndexFunc_retrace_api_Chan_retrace_api_Chan (p0 : (List T_api_Chan)) (o0 : T_api_Ins) : Le (X_slices_IndexFunc_retrace_api_Chan_retrace_api_Chan p0 o0) (F_slices_IndexFunc_retrace_api_Chan_retrace_api_Chan p0 o0) := by
  unfold X_slices_IndexFunc_retrace_api_Chan_retrace_api_Chan F_slices_IndexFunc_retrace_api_Chan_retrace_api_Chan
  repeat' with_reducible first
    | apply LE_slices_IndexFunc_retrace_api_Chan_retrace_api_Chan_L1
    | exact Le.non _
    | exact Le.rf _
    | refine Le.grd ?_
    | refine Le.bind ?_ (fun _ => ?_)
    | refine Le.cond ?_ ?_
    | refine Le.map ?_
    | refine Le.elim (fun _ => ?_) (fun _ => ?_)
    | refine Le.lt (fun _ => ?_)
    | refine Le.loop (fun _ => ?_)
    | refine Le.loopF (fun _ => ?_)
theorem LE_slices_ContainsFunc_retrace_api_Chan_retrace_api_Chan (p0 : (List T_api_Chan)) (o0 : T_api_Ins) : Le (X_slices_ContainsFunc_retrace_api_Chan_retrace_api_Chan p0 o0) (F_slices_ContainsFunc_retrace_api_Chan_retrace_api_Chan p0 o0) := by
  unfold X_slices_ContainsFunc_retrace_api_Chan_retrace_api_Chan F_slices_ContainsFunc_retrace_api_Chan_retrace_api_Chan
  repeat' with_reducible first
    | apply LE_slices_IndexFunc_retrace_api_Chan_retrace_api_Chan
    | exact Le.non _
    | exact Le.rf _
    | refine Le.grd ?_
    | refine Le.bind ?_ (fun _ => ?_)
    | refine Le.cond ?_ ?_
    | refine Le.map ?_
    | refine Le.elim (fun _ => ?_) (fun _ => ?_)
    | refine Le.lt (fun _ => ?_)
    | refine Le.loop (fun _ => ?_)
    | refine Le.loopF (fun _ => ?_)
theorem LE_patch_Target_J1 (p0 : T_api_Ins) (x19 : Bool) : Le (X_patch_Target_J1 p0 x19) (F_patch_Target_J1 p0 x19) := by
  unfold X_patch_Target_J1 F_patch_Target_J1
  repeat' with_reducible first
    | exact Le.non _
    | exact Le.rf _
    | refine Le.grd ?_
    | refine Le.bind ?_ (fun _ => ?_)
    | refine Le.cond ?_ ?_
    | refine Le.map ?_
    | refine Le.elim (fun _ => ?_) (fun _ => ?_)
    | refine Le.lt (fun _ => ?_)
    | refine Le.loop (fun _ => ?_)
    | refine Le.loopF (fun _ => ?_)
theorem LE_patch_Target (p0 : T_api_Ins) : Le (X_patch_Target p0) (F_patch_Target p0) := by
  unfold X_patch_Target F_patch_Target
  repeat' with_reducible first
    | apply LE_patch_Target_J1
    | exact Le.non _
    | exact Le.rf _
    | refine Le.grd ?_
    | refine Le.bind ?_ (fun _ => ?_)
    | refine Le.cond ?_ ?_
    | refine Le.map ?_
    | refine Le.elim (fun _ => ?_) (fun _ => ?_)
    | refine Le.lt (fun _ => ?_)
    | refine Le.loop (fun _ => ?_)
    | refine Le.loopF (fun _ => ?_)
theorem LE_code_checker_aimed_J1 (x5 : Bool) : Le (X_code_checker_aimed_J1 x5) (F_code_checker_aimed_J1 x5) := by
  unfold X_code_checker_aimed_J1 F_code_checker_aimed_J1
  repeat' with_reducible first
    | exact Le.non _
    | exact Le.rf _
    | refine Le.grd ?_
    | refine Le.bind ?_ (fun _ => ?_)
    | refine Le.cond ?_ ?_
    | refine Le.map ?_
    | refine Le.elim (fun _ => ?_) (fun _ => ?_)
    | refine Le.lt (fun _ => ?_)
    | refine Le.loop (fun _ => ?_)
    | refine Le.loopF (fun _ => ?_)
theorem LE_code_checker_aimed (p1 : Int) (p2 : Int) (o0 : T_code_checker) : Le (X_code_checker_aimed p1 p2 o0) (F_code_checker_aimed p1 p2 o0) := by
  unfold X_code_checker_aimed F_code_checker_aimed
  repeat' with_reducible first
    | apply LE_code_checker_aimed_J1
    | exact Le.non _
    | exact Le.rf _
    | refine Le.grd ?_
    | refine Le.bind ?_ (fun _ => ?_)
    | refine Le.cond ?_ ?_
    | refine Le.map ?_
    | refine Le.elim (fun _ => ?_) (fun _ => ?_)
    | refine Le.lt (fun _ => ?_)
    | refine Le.loop (fun _ => ?_)
    | refine Le.loopF (fun _ => ?_)
theorem LE_code_acts_J1 (x27 : Bool) : Le (X_code_acts_J1 x27) (F_code_acts_J1 x27) := by
  unfold X_code_acts_J1 F_code_acts_J1
  repeat' with_reducible first
    | exact Le.non _
    | exact Le.rf _
    | refine Le.grd ?_
    | refine Le.bind ?_ (fun _ => ?_)
    | refine Le.cond ?_ ?_
    | refine Le.map ?_
    | refine Le.elim (fun _ => ?_) (fun _ => ?_)
    | refine Le.lt (fun _ => ?_)
    | refine Le.loop (fun _ => ?_)
    | refine Le.loopF (fun _ => ?_)
theorem LE_code_acts (p0 : Int) : Le (X_code_acts p0) (F_code_acts p0) := by
  unfold X_code_acts F_code_acts
  repeat' with_reducible first
    | apply LE_code_acts_J1
    | exact Le.non _
    | exact Le.rf _
    | refine Le.grd ?_
    | refine Le.bind ?_ (fun _ => ?_)
    | refine Le.cond ?_ ?_
    | refine Le.map ?_
    | refine Le.elim (fun _ => ?_) (fun _ => ?_)
    | refine Le.lt (fun _ => ?_)
    | refine Le.loop (fun _ => ?_)
    | refine Le.loopF (fun _ => ?_)
theorem LE_code_chooses_J1 (x4 : Bool) : Le (X_code_chooses_J1 x4) (F_code_chooses_J1 x4) := by
  unfold X_code_chooses_J1 F_code_chooses_J1
  repeat' with_reducible first
    | exact Le.non _
    | exact Le.rf _
    | refine Le.grd ?_
    | refine Le.bind ?_ (fun _ => ?_)
    | refine Le.cond ?_ ?_
    | refine Le.map ?_
    | refine Le.elim (fun _ => ?_) (fun _ => ?_)
    | refine Le.lt (fun _ => ?_)
    | refine Le.loop (fun _ => ?_)
    | refine Le.loopF (fun _ => ?_)
theorem LE_code_chooses (p0 : Int) : Le (X_code_chooses p0) (F_code_chooses p0) := by
  unfold X_code_chooses F_code_chooses
  repeat' with_reducible first
    | apply LE_code_chooses_J1
    | exact Le.non _
    | exact Le.rf _
    | refine Le.grd ?_
    | refine Le.bind ?_ (fun _ => ?_)
    | refine Le.cond ?_ ?_
    | refine Le.map ?_
    | refine Le.elim (fun _ => ?_) (fun _ => ?_)
    | refine Le.lt (fun _ => ?_)
    | refine Le.loop (fun _ => ?_)
    | refine Le.loopF (fun _ => ?_)
theorem LE_code_Settle_J1 (p0 : T_api_Code) (x45 : Int) (x46 : Int) (x79 : Bool) : Le (X_code_Settle_J1 p0 x45 x46 x79) (F_code_Settle_J1 p0 x45 x46 x79) := by
  unfold X_code_Settle_J1 F_code_Settle_J1
  repeat' with_reducible first
    | exact Le.non _
    | exact Le.rf _
    | refine Le.grd ?_
    | refine Le.bind ?_ (fun _ => ?_)
    | refine Le.cond ?_ ?_
    | refine Le.map ?_
    | refine Le.elim (fun _ => ?_) (fun _ => ?_)
    | refine Le.lt (fun _ => ?_)
    | refine Le.loop (fun _ => ?_)
    | refine Le.loopF (fun _ => ?_)
theorem LE_code_Settle_L2 (p0 : T_api_Code) (p1 : Int) (x45 : Int) (x46 : Int) : Le (X_code_Settle_L2 p0 p1 x45 x46) (F_code_Settle_L2 p0 p1 x45 x46) := by
  unfold X_code_Settle_L2 F_code_Settle_L2
  repeat' with_reducible first
    | apply LE_code_Settle_J1
    | exact Le.non _
    | exact Le.rf _
    | refine Le.grd ?_
    | refine Le.bind ?_ (fun _ => ?_)
    | refine Le.cond ?_ ?_
    | refine Le.map ?_
    | refine Le.elim (fun _ => ?_) (fun _ => ?_)
    | refine Le.lt (fun _ => ?_)
    | refine Le.loop (fun _ => ?_)
    | refine Le.loopF (fun _ => ?_)
theorem LE_code_Settle (p0 : T_api_Code) (p1 : Int) : Le (X_code_Settle p0 p1) (F_code_Settle p0 p1) := by
  unfold X_code_Settle F_code_Settle
  repeat' with_reducible first
    | apply LE_code_Settle_L2
    | exact Le.non _
    | exact Le.rf _
    | refine Le.grd ?_
    | refine Le.bind ?_ (fun _ => ?_)
    | refine Le.cond ?_ ?_
    | refine Le.map ?_
    | refine Le.elim (fun _ => ?_) (fun _ => ?_)
    | refine Le.lt (fun _ => ?_)
    | refine Le.loop (fun _ => ?_)
    | refine Le.loopF (fun _ => ?_)
theorem LE_code_checker_rests_J1 (x8 : Bool) : Le (X_code_checker_rests_J1 x8) (F_code_checker_rests_J1 x8) := by
  unfold X_code_checker_rests_J1 F_code_checker_rests_J1
  repeat' with_reducible first
    | exact Le.non _
    | exact Le.rf _
    | refine Le.grd ?_
    | refine Le.bind ?_ (fun _ => ?_)
    | refine Le.cond ?_ ?_
    | refine Le.map ?_
    | refine Le.elim (fun _ => ?_) (fun _ => ?_)
    | refine Le.lt (fun _ => ?_)
    | refine Le.loop (fun _ => ?_)
    | refine Le.loopF (fun _ => ?_)
theorem LE_code_checker_rests (p1 : Int) (o0 : T_code_checker) : Le (X_code_checker_rests p1 o0) (F_code_checker_rests p1 o0) := by
  unfold X_code_checker_rests F_code_checker_rests
  repeat' with_reducible first
    | apply LE_code_Settle
    | apply LE_code_checker_rests_J1
    | exact Le.non _
    | exact Le.rf _
    | refine Le.grd ?_
    | refine Le.bind ?_ (fun _ => ?_)
    | refine Le.cond ?_ ?_
    | refine Le.map ?_
    | refine Le.elim (fun _ => ?_) (fun _ => ?_)
    | refine Le.lt (fun _ => ?_)
    | refine Le.loop (fun _ => ?_)
    | refine Le.loopF (fun _ => ?_)
theorem LE_code_checker_may_J4 (x66 : Bool) : Le (X_code_checker_may_J4 x66) (F_code_checker_may_J4 x66) := by
  unfold X_code_checker_may_J4 F_code_checker_may_J4
  repeat' with_reducible first
    | exact Le.non _
    | exact Le.rf _
    | refine Le.grd ?_
    | refine Le.bind ?_ (fun _ => ?_)
    | refine Le.cond ?_ ?_
    | refine Le.map ?_
    | refine Le.elim (fun _ => ?_) (fun _ => ?_)
    | refine Le.lt (fun _ => ?_)
    | refine Le.loop (fun _ => ?_)
    | refine Le.loopF (fun _ => ?_)
theorem LE_code_checker_may_J3 (p1 : Int) (o0 : T_code_checker) (y2 : T_api_Ins) (y42 : Int × Bool) (x54 : Bool) : Le (X_code_checker_may_J3 p1 o0 y2 y42 x54) (F_code_checker_may_J3 p1 o0 y2 y42 x54) := by
  unfold X_code_checker_may_J3 F_code_checker_may_J3
  repeat' with_reducible first
    | apply LE_code_acts
    | apply LE_code_chooses
    | apply LE_code_checker_may_J4
    | apply LE_code_checker_rests
    | exact Le.non _
    | exact Le.rf _
    | refine Le.grd ?_
    | refine Le.bind ?_ (fun _ => ?_)
    | refine Le.cond ?_ ?_
    | refine Le.map ?_
    | refine Le.elim (fun _ => ?_) (fun _ => ?_)
    | refine Le.lt (fun _ => ?_)
    | refine Le.loop (fun _ => ?_)
    | refine Le.loopF (fun _ => ?_)
theorem LE_code_checker_may_J2 (p1 : Int) (o0 : T_code_checker) (y2 : T_api_Ins) (x40 : Bool) : Le (X_code_checker_may_J2 p1 o0 y2 x40) (F_code_checker_may_J2 p1 o0 y2 x40) := by
  unfold X_code_checker_may_J2 F_code_checker_may_J2
  repeat' with_reducible first
    | apply LE_patch_Target
    | apply LE_code_checker_may_J3
    | apply LE_code_checker_aimed
    | exact Le.non _
    | exact Le.rf _
    | refine Le.grd ?_
    | refine Le.bind ?_ (fun _ => ?_)
    | refine Le.cond ?_ ?_
    | refine Le.map ?_
    | refine Le.elim (fun _ => ?_) (fun _ => ?_)
    | refine Le.lt (fun _ => ?_)
    | refine Le.loop (fun _ => ?_)
    | refine Le.loopF (fun _ => ?_)
theorem LE_code_checker_may_J5 (p1 : Int) (o0 : T_code_checker) (y2 : T_api_Ins) (x85 : Bool) : Le (X_code_checker_may_J5 p1 o0 y2 x85) (F_code_checker_may_J5 p1 o0 y2 x85) := by
  unfold X_code_checker_may_J5 F_code_checker_may_J5
  repeat' with_reducible first
    | apply LE_code_checker_may_J2
    | apply LE_slices_ContainsFunc_retrace_api_Chan_retrace_api_Chan
    | exact Le.non _
    | exact Le.rf _
    | refine Le.grd ?_
    | refine Le.bind ?_ (fun _ => ?_)
    | refine Le.cond ?_ ?_
    | refine Le.map ?_
    | refine Le.elim (fun _ => ?_) (fun _ => ?_)
    | refine Le.lt (fun _ => ?_)
    | refine Le.loop (fun _ => ?_)
    | refine Le.loopF (fun _ => ?_)
theorem LE_code_checker_may_J1 (p1 : Int) (o0 : T_code_checker) (y2 : T_api_Ins) (x20 : Bool) : Le (X_code_checker_may_J1 p1 o0 y2 x20) (F_code_checker_may_J1 p1 o0 y2 x20) := by
  unfold X_code_checker_may_J1 F_code_checker_may_J1
  repeat' with_reducible first
    | apply LE_code_checker_may_J2
    | apply LE_code_checker_may_J5
    | exact Le.non _
    | exact Le.rf _
    | refine Le.grd ?_
    | refine Le.bind ?_ (fun _ => ?_)
    | refine Le.cond ?_ ?_
    | refine Le.map ?_
    | refine Le.elim (fun _ => ?_) (fun _ => ?_)
    | refine Le.lt (fun _ => ?_)
    | refine Le.loop (fun _ => ?_)
    | refine Le.loopF (fun _ => ?_)
theorem LE_code_checker_may (p1 : Int) (o0 : T_code_checker) : Le (X_code_checker_may p1 o0) (F_code_checker_may p1 o0) := by
  unfold X_code_checker_may F_code_checker_may
  repeat' with_reducible first
    | apply LE_ins_Right
    | apply LE_code_checker_may_J1
    | exact Le.non _
    | exact Le.rf _
    | refine Le.grd ?_
    | refine Le.bind ?_ (fun _ => ?_)
    | refine Le.cond ?_ ?_
    | refine Le.map ?_
    | refine Le.elim (fun _ => ?_) (fun _ => ?_)
    | refine Le.lt (fun _ => ?_)
    | refine Le.loop (fun _ => ?_)
    | refine Le.loopF (fun _ => ?_)
theorem LE_ins_Takes_J1 (p0 : T_api_Ins) (y2 : T_ins_row × Bool) (x21 : Bool) : Le (X_ins_Takes_J1 p0 y2 x21) (F_ins_Takes_J1 p0 y2 x21) := by
  unfold X_ins_Takes_J1 F_ins_Takes_J1
  repeat' with_reducible first
    | exact Le.non _
    | exact Le.rf _
    | refine Le.grd ?_
    | refine Le.bind ?_ (fun _ => ?_)
    | refine Le.cond ?_ ?_
    | refine Le.map ?_
    | refine Le.elim (fun _ => ?_) (fun _ => ?_)
    | refine Le.lt (fun _ => ?_)
    | refine Le.loop (fun _ => ?_)
    | refine Le.loopF (fun _ => ?_)
theorem LE_ins_Takes (p0 : T_api_Ins) : Le (X_ins_Takes p0) (F_ins_Takes p0) := by
  unfold X_ins_Takes F_ins_Takes
  repeat' with_reducible first
    | apply LE_ins_find
    | apply LE_ins_Right
    | apply LE_arith_Wide
    | apply LE_ins_Takes_J1
    | exact Le.non _
    | exact Le.rf _
    | refine Le.grd ?_
    | refine Le.bind ?_ (fun _ => ?_)
    | refine Le.cond ?_ ?_
    | refine Le.map ?_
    | refine Le.elim (fun _ => ?_) (fun _ => ?_)
    | refine Le.lt (fun _ => ?_)
    | refine Le.loop (fun _ => ?_)
    | refine Le.loopF (fun _ => ?_)
theorem LE_ins_Gives_J1 (y10 : T_ins_row × Bool) (x13 : Bool) : Le (X_ins_Gives_J1 y10 x13) (F_ins_Gives_J1 y10 x13) := by
  unfold X_ins_Gives_J1 F_ins_Gives_J1
  repeat' with_reducible first
    | exact Le.non _
    | exact Le.rf _
    | refine Le.grd ?_
    | refine Le.bind ?_ (fun _ => ?_)
    | refine Le.cond ?_ ?_
    | refine Le.map ?_
    | refine Le.elim (fun _ => ?_) (fun _ => ?_)
    | refine Le.lt (fun _ => ?_)
    | refine Le.loop (fun _ => ?_)
    | refine Le.loopF (fun _ => ?_)
theorem LE_ins_Gives (p0 : T_api_Ins) : Le (X_ins_Gives p0) (F_ins_Gives p0) := by
  unfold X_ins_Gives F_ins_Gives
  repeat' with_reducible first
    | apply LE_ins_find
    | apply LE_ins_Right
    | apply LE_ins_Gives_J1
    | exact Le.non _
    | exact Le.rf _
    | refine Le.grd ?_
    | refine Le.bind ?_ (fun _ => ?_)
    | refine Le.cond ?_ ?_
    | refine Le.map ?_
    | refine Le.elim (fun _ => ?_) (fun _ => ?_)
    | refine Le.lt (fun _ => ?_)
    | refine Le.loop (fun _ => ?_)
    | refine Le.loopF (fun _ => ?_)
theorem LE_code_fits_J1 (p0 : T_api_Ins) (p1 : T_code_there) (y2 : Int) (x23 : Bool) (x24 : Bool) : Le (X_code_fits_J1 p0 p1 y2 x23 x24) (F_code_fits_J1 p0 p1 y2 x23 x24) := by
  unfold X_code_fits_J1 F_code_fits_J1
  repeat' with_reducible first
    | apply LE_ins_Gives
    | exact Le.non _
    | exact Le.rf _
    | refine Le.grd ?_
    | refine Le.bind ?_ (fun _ => ?_)
    | refine Le.cond ?_ ?_
    | refine Le.map ?_
    | refine Le.elim (fun _ => ?_) (fun _ => ?_)
    | refine Le.lt (fun _ => ?_)
    | refine Le.loop (fun _ => ?_)
    | refine Le.loopF (fun _ => ?_)
theorem LE_code_fits_J3 (p0 : T_api_Ins) (p1 : T_code_there) (y2 : Int) (x39 : Bool) : Le (X_code_fits_J3 p0 p1 y2 x39) (F_code_fits_J3 p0 p1 y2 x39) := by
  unfold X_code_fits_J3 F_code_fits_J3
  repeat' with_reducible first
    | apply LE_code_fits_J1
    | exact Le.non _
    | exact Le.rf _
    | refine Le.grd ?_
    | refine Le.bind ?_ (fun _ => ?_)
    | refine Le.cond ?_ ?_
    | refine Le.map ?_
    | refine Le.elim (fun _ => ?_) (fun _ => ?_)
    | refine Le.lt (fun _ => ?_)
    | refine Le.loop (fun _ => ?_)
    | refine Le.loopF (fun _ => ?_)
theorem LE_code_fits_J2 (p0 : T_api_Ins) (p1 : T_code_there) (y2 : Int) (x29 : Bool) : Le (X_code_fits_J2 p0 p1 y2 x29) (F_code_fits_J2 p0 p1 y2 x29) := by
  unfold X_code_fits_J2 F_code_fits_J2
  repeat' with_reducible first
    | apply LE_code_fits_J1
    | apply LE_code_chooses
    | apply LE_code_acts
    | apply LE_code_fits_J3
    | exact Le.non _
    | exact Le.rf _
    | refine Le.grd ?_
    | refine Le.bind ?_ (fun _ => ?_)
    | refine Le.cond ?_ ?_
    | refine Le.map ?_
    | refine Le.elim (fun _ => ?_) (fun _ => ?_)
    | refine Le.lt (fun _ => ?_)
    | refine Le.loop (fun _ => ?_)
    | refine Le.loopF (fun _ => ?_)
theorem LE_code_fits (p0 : T_api_Ins) (p1 : T_code_there) : Le (X_code_fits p0 p1) (F_code_fits p0 p1) := by
  unfold X_code_fits F_code_fits
  repeat' with_reducible first
    | apply LE_ins_Takes
    | apply LE_code_fits_J2
    | exact Le.non _
    | exact Le.rf _
    | refine Le.grd ?_
    | refine Le.bind ?_ (fun _ => ?_)
    | refine Le.cond ?_ ?_
    | refine Le.map ?_
    | refine Le.elim (fun _ => ?_) (fun _ => ?_)
    | refine Le.lt (fun _ => ?_)
    | refine Le.loop (fun _ => ?_)
    | refine Le.loopF (fun _ => ?_)
theorem LE_code_checker_flow_1 (p0 : Int) (p1 : T_code_there) (o2_0 : Int) (o3_0 : Bool) (o1 : (List (Int × T_code_there))) : Le (X_code_checker_flow_1 p0 p1 o2_0 o3_0 o1) (F_code_checker_flow_1 p0 p1 o2_0 o3_0 o1) := by
  unfold X_code_checker_flow_1 F_code_checker_flow_1
  repeat' with_reducible first
    | exact Le.non _
    | exact Le.rf _
    | refine Le.grd ?_
    | refine Le.bind ?_ (fun _ => ?_)
    | refine Le.cond ?_ ?_
    | refine Le.map ?_
    | refine Le.elim (fun _ => ?_) (fun _ => ?_)
    | refine Le.lt (fun _ => ?_)
    | refine Le.loop (fun _ => ?_)
    | refine Le.loopF (fun _ => ?_)
theorem LE_code_checker_flow_J1 (x139 : Int) (x207 : (List (Int × T_code_there))) : Le (X_code_checker_flow_J1 x139 x207) (F_code_checker_flow_J1 x139 x207) := by
  unfold X_code_checker_flow_J1 F_code_checker_flow_J1
  repeat' with_reducible first
    | exact Le.non _
    | exact Le.rf _
    | refine Le.grd ?_
    | refine Le.bind ?_ (fun _ => ?_)
    | refine Le.cond ?_ ?_
    | refine Le.map ?_
    | refine Le.elim (fun _ => ?_) (fun _ => ?_)
    | refine Le.lt (fun _ => ?_)
    | refine Le.loop (fun _ => ?_)
    | refine Le.loopF (fun _ => ?_)
theorem LE_code_checker_flow_J4 (x139 : Int) (x245 : (List (Int × T_code_there))) (x246 : Bool) : Le (X_code_checker_flow_J4 x139 x245 x246) (F_code_checker_flow_J4 x139 x245 x246) := by
  unfold X_code_checker_flow_J4 F_code_checker_flow_J4
  repeat' with_reducible first
    | apply LE_code_checker_flow_J1
    | exact Le.non _
    | exact Le.rf _
    | refine Le.grd ?_
    | refine Le.bind ?_ (fun _ => ?_)
    | refine Le.cond ?_ ?_
    | refine Le.map ?_
    | refine Le.elim (fun _ => ?_) (fun _ => ?_)
    | refine Le.lt (fun _ => ?_)
    | refine Le.loop (fun _ => ?_)
    | refine Le.loopF (fun _ => ?_)
theorem LE_code_checker_flow_J5 (x139 : Int) (y220 : T_code_there × Bool) (x232 : (List (Int × T_code_there))) (x233 : Bool) (x254 : Bool) : Le (X_code_checker_flow_J5 x139 y220 x232 x233 x254) (F_code_checker_flow_J5 x139 y220 x232 x233 x254) := by
  unfold X_code_checker_flow_J5 F_code_checker_flow_J5
  repeat' with_reducible first
    | apply LE_code_checker_flow_1
    | apply LE_code_checker_flow_J4
    | exact Le.non _
    | exact Le.rf _
    | refine Le.grd ?_
    | refine Le.bind ?_ (fun _ => ?_)
    | refine Le.cond ?_ ?_
    | refine Le.map ?_
    | refine Le.elim (fun _ => ?_) (fun _ => ?_)
    | refine Le.lt (fun _ => ?_)
    | refine Le.loop (fun _ => ?_)
    | refine Le.loopF (fun _ => ?_)
theorem LE_code_checker_flow_J3 (x139 : Int) (y211 : T_api_Ins) (y220 : T_code_there × Bool) (x232 : (List (Int × T_code_there))) (x233 : Bool) : Le (X_code_checker_flow_J3 x139 y211 y220 x232 x233) (F_code_checker_flow_J3 x139 y211 y220 x232 x233) := by
  unfold X_code_checker_flow_J3 F_code_checker_flow_J3
  repeat' with_reducible first
    | apply LE_code_checker_flow_J5
    | exact Le.non _
    | exact Le.rf _
    | refine Le.grd ?_
    | refine Le.bind ?_ (fun _ => ?_)
    | refine Le.cond ?_ ?_
    | refine Le.map ?_
    | refine Le.elim (fun _ => ?_) (fun _ => ?_)
    | refine Le.lt (fun _ => ?_)
    | refine Le.loop (fun _ => ?_)
    | refine Le.loopF (fun _ => ?_)
theorem LE_code_checker_flow_J6 (x138 : (List (Int × T_code_there))) (x139 : Int) (y211 : T_api_Ins) (y220 : T_code_there × Bool) (y262 : Int × Bool) (x264 : Bool) : Le (X_code_checker_flow_J6 x138 x139 y211 y220 y262 x264) (F_code_checker_flow_J6 x138 x139 y211 y220 y262 x264) := by
  unfold X_code_checker_flow_J6 F_code_checker_flow_J6
  repeat' with_reducible first
    | apply LE_code_chooses
    | apply LE_code_checker_flow_1
    | apply LE_code_checker_flow_J3
    | exact Le.non _
    | exact Le.rf _
    | refine Le.grd ?_
    | refine Le.bind ?_ (fun _ => ?_)
    | refine Le.cond ?_ ?_
    | refine Le.map ?_
    | refine Le.elim (fun _ => ?_) (fun _ => ?_)
    | refine Le.lt (fun _ => ?_)
    | refine Le.loop (fun _ => ?_)
    | refine Le.loopF (fun _ => ?_)
theorem LE_code_checker_flow_J2 (x138 : (List (Int × T_code_there))) (x139 : Int) (y209 : (Option T_code_there)) (y211 : T_api_Ins) (x217 : Bool) : Le (X_code_checker_flow_J2 x138 x139 y209 y211 x217) (F_code_checker_flow_J2 x138 x139 y209 y211 x217) := by
  unfold X_code_checker_flow_J2 F_code_checker_flow_J2
  repeat' with_reducible first
    | apply LE_code_checker_flow_J1
    | apply LE_code_fits
    | apply LE_patch_Target
    | apply LE_code_checker_flow_J6
    | exact Le.non _
    | exact Le.rf _
    | refine Le.grd ?_
    | refine Le.bind ?_ (fun _ => ?_)
    | refine Le.cond ?_ ?_
    | refine Le.map ?_
    | refine Le.elim (fun _ => ?_) (fun _ => ?_)
    | refine Le.lt (fun _ => ?_)
    | refine Le.loop (fun _ => ?_)
    | refine Le.loopF (fun _ => ?_)
theorem LE_code_checker_flow_L7 (o0 : T_code_checker) (x138 : (List (Int × T_code_there))) (x139 : Int) : Le (X_code_checker_flow_L7 o0 x138 x139) (F_code_checker_flow_L7 o0 x138 x139) := by
  unfold X_code_checker_flow_L7 F_code_checker_flow_L7
  repeat' with_reducible first
    | apply LE_code_checker_flow_J2
    | exact Le.non _
    | exact Le.rf _
    | refine Le.grd ?_
    | refine Le.bind ?_ (fun _ => ?_)
    | refine Le.cond ?_ ?_
    | refine Le.map ?_
    | refine Le.elim (fun _ => ?_) (fun _ => ?_)
    | refine Le.lt (fun _ => ?_)
    | refine Le.loop (fun _ => ?_)
    | refine Le.loopF (fun _ => ?_)
theorem LE_code_checker_flow (o0 : T_code_checker) : Le (X_code_checker_flow o0) (F_code_checker_flow o0) := by
  unfold X_code_checker_flow F_code_checker_flow
  repeat' with_reducible first
    | apply LE_code_checker_flow_L7
    | exact Le.non _
    | exact Le.rf _
    | refine Le.grd ?_
    | refine Le.bind ?_ (fun _ => ?_)
    | refine Le.cond ?_ ?_
    | refine Le.map ?_
    | refine Le.elim (fun _ => ?_) (fun _ => ?_)
    | refine Le.lt (fun _ => ?_)
    | refine Le.loop (fun _ => ?_)
    | refine Le.loopF (fun _ => ?_)
theorem LE_code_Check_J1 (x134 : Int) (x149 : Int) : Le (X_code_Check_J1 x134 x149) (F_code_Check_J1 x134 x149) := by
  unfold X_code_Check_J1 F_code_Check_J1
  repeat' with_reducible first
    | exact Le.non _
    | exact Le.rf _
    | refine Le.grd ?_
    | refine Le.bind ?_ (fun _ => ?_)
    | refine Le.cond ?_ ?_
    | refine Le.map ?_
    | refine Le.elim (fun _ => ?_) (fun _ => ?_)
    | refine Le.lt (fun _ => ?_)
    | refine Le.loop (fun _ => ?_)
    | refine Le.loopF (fun _ => ?_)
theorem LE_code_Check_L2 (p0 : T_api_Code) (x87 : Int) (y133 : T_code_checker) (x134 : Int) (x135 : Int) : Le (X_code_Check_L2 p0 x87 y133 x134 x135) (F_code_Check_L2 p0 x87 y133 x134 x135) := by
  unfold X_code_Check_L2 F_code_Check_L2
  repeat' with_reducible first
    | apply LE_code_checker_may
    | apply LE_code_Check_J1
    | exact Le.non _
    | exact Le.rf _
    | refine Le.grd ?_
    | refine Le.bind ?_ (fun _ => ?_)
    | refine Le.cond ?_ ?_
    | refine Le.map ?_
    | refine Le.elim (fun _ => ?_) (fun _ => ?_)
    | refine Le.lt (fun _ => ?_)
    | refine Le.loop (fun _ => ?_)
    | refine Le.loopF (fun _ => ?_)
theorem LE_code_Check_L3 (p0 : T_api_Code) (x197 : Int) (x198 : (List T_api_Ins)) (x199 : (List T_api_Def)) (x200 : (List T_api_Chan)) (x201 : Int) (x202 : Int) (x203 : Int) (x204 : Int) (x205 : Int) (x206 : Int) : Le (X_code_Check_L3 p0 x197 x198 x199 x200 x201 x202 x203 x204 x205 x206) (F_code_Check_L3 p0 x197 x198 x199 x200 x201 x202 x203 x204 x205 x206) := by
  unfold X_code_Check_L3 F_code_Check_L3
  repeat' with_reducible first
    | apply LE_code_checker_routine
    | apply LE_code_checker_flow
    | exact Le.non _
    | exact Le.rf _
    | refine Le.grd ?_
    | refine Le.bind ?_ (fun _ => ?_)
    | refine Le.cond ?_ ?_
    | refine Le.map ?_
    | refine Le.elim (fun _ => ?_) (fun _ => ?_)
    | refine Le.lt (fun _ => ?_)
    | refine Le.loop (fun _ => ?_)
    | refine Le.loopF (fun _ => ?_)
theorem LE_code_Check_L4 (p0 : T_api_Code) (x87 : Int) (x88 : (List T_api_Ins)) (x89 : (List T_api_Def)) (x90 : (List T_api_Chan)) (x91 : Int) (x92 : Int) (x93 : Int) (x94 : Int) (x95 : Int) (x96 : Int) : Le (X_code_Check_L4 p0 x87 x88 x89 x90 x91 x92 x93 x94 x95 x96) (F_code_Check_L4 p0 x87 x88 x89 x90 x91 x92 x93 x94 x95 x96) := by
  unfold X_code_Check_L4 F_code_Check_L4
  repeat' with_reducible first
    | apply LE_code_checker_routine
    | apply LE_code_Check_L2
    | apply LE_code_Check_L3
    | exact Le.non _
    | exact Le.rf _
    | refine Le.grd ?_
    | refine Le.bind ?_ (fun _ => ?_)
    | refine Le.cond ?_ ?_
    | refine Le.map ?_
    | refine Le.elim (fun _ => ?_) (fun _ => ?_)
    | refine Le.lt (fun _ => ?_)
    | refine Le.loop (fun _ => ?_)
    | refine Le.loopF (fun _ => ?_)
theorem LE_code_Check (p0 : T_api_Code) : Le (X_code_Check p0) (F_code_Check p0) := by
  unfold X_code_Check F_code_Check
  repeat' with_reducible first
    | apply LE_code_tables
    | apply LE_code_Check_L4
    | exact Le.non _
    | exact Le.rf _
    | refine Le.grd ?_
    | refine Le.bind ?_ (fun _ => ?_)
    | refine Le.cond ?_ ?_
    | refine Le.map ?_
    | refine Le.elim (fun _ => ?_) (fun _ => ?_)
    | refine Le.lt (fun _ => ?_)
    | refine Le.loop (fun _ => ?_)
    | refine Le.loopF (fun _ => ?_)
theorem LE_slices_Backward_retrace_api_Def_retrace_api_Def (p0 : (List T_api_Def)) : Le (X_slices_Backward_retrace_api_Def_retrace_api_Def p0) (F_slices_Backward_retrace_api_Def_retrace_api_Def p0) := by
  unfold X_slices_Backward_retrace_api_Def_retrace_api_Def F_slices_Backward_retrace_api_Def_retrace_api_Def
  repeat' with_reducible first
    | exact Le.non _
    | exact Le.rf _
    | refine Le.grd ?_
    | refine Le.bind ?_ (fun _ => ?_)
    | refine Le.cond ?_ ?_
    | refine Le.map ?_
    | refine Le.elim (fun _ => ?_) (fun _ => ?_)
    | refine Le.lt (fun _ => ?_)
    | refine Le.loop (fun _ => ?_)
    | refine Le.loopF (fun _ => ?_)
theorem LE_R_code_Routine_0 (p0 : Int) (p1 : T_api_Def) (o1_0 : Int) (o2_0 : Int) : Le (X_R_code_Routine_0 p0 p1 o1_0 o2_0) (F_R_code_Routine_0 p0 p1 o1_0 o2_0) := by
  unfold X_R_code_Routine_0 F_R_code_Routine_0
  repeat' with_reducible first
    | exact Le.non _
    | exact Le.rf _
    | refine Le.grd ?_
    | refine Le.bind ?_ (fun _ => ?_)
    | refine Le.cond ?_ ?_
    | refine Le.map ?_
    | refine Le.elim (fun _ => ?_) (fun _ => ?_)
    | refine Le.lt (fun _ => ?_)
    | refine Le.loop (fun _ => ?_)
    | refine Le.loopF (fun _ => ?_)
theorem LE_slices_Backward_retrace_api_Def_retrace_api_Def_1_J1 (x19 : Int) : Le (X_slices_Backward_retrace_api_Def_retrace_api_Def_1_J1 x19) (F_slices_Backward_retrace_api_Def_retrace_api_Def_1_J1 x19) := by
  unfold X_slices_Backward_retrace_api_Def_retrace_api_Def_1_J1 F_slices_Backward_retrace_api_Def_retrace_api_Def_1_J1
  repeat' with_reducible first
    | exact Le.non _
    | exact Le.rf _
    | refine Le.grd ?_
    | refine Le.bind ?_ (fun _ => ?_)
    | refine Le.cond ?_ ?_
    | refine Le.map ?_
    | refine Le.elim (fun _ => ?_) (fun _ => ?_)
    | refine Le.lt (fun _ => ?_)
    | refine Le.loop (fun _ => ?_)
    | refine Le.loopF (fun _ => ?_)
theorem LE_slices_Backward_retrace_api_Def_retrace_api_Def_1_J2 (x1 : Int) : Le (X_slices_Backward_retrace_api_Def_retrace_api_Def_1_J2 x1) (F_slices_Backward_retrace_api_Def_retrace_api_Def_1_J2 x1) := by
  unfold X_slices_Backward_retrace_api_Def_retrace_api_Def_1_J2 F_slices_Backward_retrace_api_Def_retrace_api_Def_1_J2
  repeat' with_reducible first
    | exact Le.non _
    | exact Le.rf _
    | refine Le.grd ?_
    | refine Le.bind ?_ (fun _ => ?_)
    | refine Le.cond ?_ ?_
    | refine Le.map ?_
    | refine Le.elim (fun _ => ?_) (fun _ => ?_)
    | refine Le.lt (fun _ => ?_)
    | refine Le.loop (fun _ => ?_)
    | refine Le.loopF (fun _ => ?_)
theorem LE_slices_Backward_retrace_api_Def_retrace_api_Def_1_L3 (o1_0 : Int) (o2_0 : Int) (o3_0 : (List T_api_Def)) (x1 : Int) : Le (X_slices_Backward_retrace_api_Def_retrace_api_Def_1_L3 o1_0 o2_0 o3_0 x1) (F_slices_Backward_retrace_api_Def_retrace_api_Def_1_L3 o1_0 o2_0 o3_0 x1) := by
  unfold X_slices_Backward_retrace_api_Def_retrace_api_Def_1_L3 F_slices_Backward_retrace_api_Def_retrace_api_Def_1_L3
  repeat' with_reducible first
    | apply LE_R_code_Routine_0
    | apply LE_slices_Backward_retrace_api_Def_retrace_api_Def_1_J1
    | apply LE_slices_Backward_retrace_api_Def_retrace_api_Def_1_J2
    | exact Le.non _
    | exact Le.rf _
    | refine Le.grd ?_
    | refine Le.bind ?_ (fun _ => ?_)
    | refine Le.cond ?_ ?_
    | refine Le.map ?_
    | refine Le.elim (fun _ => ?_) (fun _ => ?_)
    | refine Le.lt (fun _ => ?_)
    | refine Le.loop (fun _ => ?_)
    | refine Le.loopF (fun _ => ?_)
theorem LE_slices_Backward_retrace_api_Def_retrace_api_Def_1 (o1_0 : Int) (o2_0 : Int) (o3_0 : (List T_api_Def)) : Le (X_slices_Backward_retrace_api_Def_retrace_api_Def_1 o1_0 o2_0 o3_0) (F_slices_Backward_retrace_api_Def_retrace_api_Def_1 o1_0 o2_0 o3_0) := by
  unfold X_slices_Backward_retrace_api_Def_retrace_api_Def_1 F_slices_Backward_retrace_api_Def_retrace_api_Def_1
  repeat' with_reducible first
    | apply LE_slices_Backward_retrace_api_Def_retrace_api_Def_1_L3
    | exact Le.non _
    | exact Le.rf _
    | refine Le.grd ?_
    | refine Le.bind ?_ (fun _ => ?_)
    | refine Le.cond ?_ ?_
    | refine Le.map ?_
    | refine Le.elim (fun _ => ?_) (fun _ => ?_)
    | refine Le.lt (fun _ => ?_)
    | refine Le.loop (fun _ => ?_)
    | refine Le.loopF (fun _ => ?_)
theorem LE_code_Routine_J1 (p0 : T_api_Code) (p1 : Int) (x6 : Bool) : Le (X_code_Routine_J1 p0 p1 x6) (F_code_Routine_J1 p0 p1 x6) := by
  unfold X_code_Routine_J1 F_code_Routine_J1
  repeat' with_reducible first
    | apply LE_slices_Backward_retrace_api_Def_retrace_api_Def
    | apply LE_slices_Backward_retrace_api_Def_retrace_api_Def_1
    | exact Le.non _
    | exact Le.rf _
    | refine Le.grd ?_
    | refine Le.bind ?_ (fun _ => ?_)
    | refine Le.cond ?_ ?_
    | refine Le.map ?_
    | refine Le.elim (fun _ => ?_) (fun _ => ?_)
    | refine Le.lt (fun _ => ?_)
    | refine Le.loop (fun _ => ?_)
    | refine Le.loopF (fun _ => ?_)
theorem LE_code_Routine (p0 : T_api_Code) (p1 : Int) : Le (X_code_Routine p0 p1) (F_code_Routine p0 p1) := by
  unfold X_code_Routine F_code_Routine
  repeat' with_reducible first
    | apply LE_code_Routine_J1
    | exact Le.non _
    | exact Le.rf _
    | refine Le.grd ?_
    | refine Le.bind ?_ (fun _ => ?_)
    | refine Le.cond ?_ ?_
    | refine Le.map ?_
    | refine Le.elim (fun _ => ?_) (fun _ => ?_)
    | refine Le.lt (fun _ => ?_)
    | refine Le.loop (fun _ => ?_)
    | refine Le.loopF (fun _ => ?_)
theorem LE_code_Stmt_J1 (p0 : T_api_Code) (p1 : Int) (x12 : Bool) : Le (X_code_Stmt_J1 p0 p1 x12) (F_code_Stmt_J1 p0 p1 x12) := by
  unfold X_code_Stmt_J1 F_code_Stmt_J1
  repeat' with_reducible first
    | exact Le.non _
    | exact Le.rf _
    | refine Le.grd ?_
    | refine Le.bind ?_ (fun _ => ?_)
    | refine Le.cond ?_ ?_
    | refine Le.map ?_
    | refine Le.elim (fun _ => ?_) (fun _ => ?_)
    | refine Le.lt (fun _ => ?_)
    | refine Le.loop (fun _ => ?_)
    | refine Le.loopF (fun _ => ?_)
theorem LE_code_Stmt (p0 : T_api_Code) (p1 : Int) : Le (X_code_Stmt p0 p1) (F_code_Stmt p0 p1) := by
  unfold X_code_Stmt F_code_Stmt
  repeat' with_reducible first
    | apply LE_code_Stmt_J1
    | exact Le.non _
    | exact Le.rf _
    | refine Le.grd ?_
    | refine Le.bind ?_ (fun _ => ?_)
    | refine Le.cond ?_ ?_
    | refine Le.map ?_
    | refine Le.elim (fun _ => ?_) (fun _ => ?_)
    | refine Le.lt (fun _ => ?_)
    | refine Le.loop (fun _ => ?_)
    | refine Le.loopF (fun _ => ?_)
theorem LE_retracelaw20_live_J1 (x13 : Bool) : Le (X_retracelaw20_live_J1 x13) (F_retracelaw20_live_J1 x13) := by
  unfold X_retracelaw20_live_J1 F_retracelaw20_live_J1
  repeat' with_reducible first
    | exact Le.non _
    | exact Le.rf _
    | refine Le.grd ?_
    | refine Le.bind ?_ (fun _ => ?_)
    | refine Le.cond ?_ ?_
    | refine Le.map ?_
    | refine Le.elim (fun _ => ?_) (fun _ => ?_)
    | refine Le.lt (fun _ => ?_)
    | refine Le.loop (fun _ => ?_)
    | refine Le.loopF (fun _ => ?_)
theorem LE_retracelaw20_live  : Le (X_retracelaw20_live ) (F_retracelaw20_live ) := by
  unfold X_retracelaw20_live F_retracelaw20_live
  repeat' with_reducible first
    | apply LE_code_Check
    | apply LE_code_Routine
    | apply LE_code_Stmt
    | apply LE_retracelaw20_live_J1
    | exact Le.non _
    | exact Le.rf _
    | refine Le.grd ?_
    | refine Le.bind ?_ (fun _ => ?_)
    | refine Le.cond ?_ ?_
    | refine Le.map ?_
    | refine Le.elim (fun _ => ?_) (fun _ => ?_)
    | refine Le.lt (fun _ => ?_)
    | refine Le.loop (fun _ => ?_)
    | refine Le.loopF (fun _ => ?_)
theorem ev_retracelaw20_live : F_retracelaw20_live = some true := LE_retracelaw20_live _ (by kernel_rfl)
end Go.Ab
