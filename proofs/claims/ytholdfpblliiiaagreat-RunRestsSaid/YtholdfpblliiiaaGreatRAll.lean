/- RunRests, plainly. -/
import Derived.Test.YtholdfpblliiiaaGreatGT4X
import Derived.Test.YtholdfpblliiiaaGreatAbTot
import Derived.Test.YtholdfpblliiiaaGreatAbScan
import Derived.KernelRfl
section
/- Plain functions, without their contracts. -/
namespace Go.Ab
open Go.Proofs
set_option linter.unusedVariables false
set_option maxRecDepth 100000
structure T_code_checker where
  Code : T_api_Code
  marks : Int
  from_ : Int
  to : Int
  vars : Int
structure T_ins_row where
  word : ByteArray
  nums : Int
  takes : Int
  gives : Int
structure T_code_there where
  n : Int
  choose : Bool
noncomputable def F_code_checker_routine (p1 : Int) (o0 : T_code_checker) : Option (T_code_checker) :=
  (lAt o0.Code.Defs p1).bind fun y3 => (lAt o0.Code.Defs p1).bind fun y4 => cond (decide ((w64 (p1 + 1)) < ((o0.Code.Defs).length : Int))) ((lAt o0.Code.Defs (w64 (p1 + 1))).bind fun y6 => some (⟨o0.Code, o0.marks, y3.Entry, y6.Entry, y4.Vars⟩ : T_code_checker)) (some (⟨o0.Code, o0.marks, y3.Entry, ((o0.Code.Ins).length : Int), y4.Vars⟩ : T_code_checker))
noncomputable def F_ins_rows  : Option ((List T_ins_row)) :=
  grd ((([(⟨(⟨#[]⟩ : ByteArray), 0, 0, 0⟩ : T_ins_row), (⟨(⟨#[109, 97, 114, 107]⟩ : ByteArray), 1, 0, 0⟩ : T_ins_row), (⟨(⟨#[112, 117, 115, 104]⟩ : ByteArray), 1, 0, 1⟩ : T_ins_row), (⟨(⟨#[108, 111, 97, 100]⟩ : ByteArray), 1, 0, 1⟩ : T_ins_row), (⟨(⟨#[115, 116, 111, 114, 101]⟩ : ByteArray), 1, 1, 0⟩ : T_ins_row), (⟨(⟨#[97, 112, 112, 108, 121]⟩ : ByteArray), 1, 0, 1⟩ : T_ins_row), (⟨(⟨#[106, 117, 109, 112]⟩ : ByteArray), 1, 0, 0⟩ : T_ins_row), (⟨(⟨#[122, 101, 114, 111]⟩ : ByteArray), 1, 1, 0⟩ : T_ins_row), (⟨(⟨#[111, 110, 101]⟩ : ByteArray), 1, 1, 0⟩ : T_ins_row), (⟨(⟨#[99, 104, 97, 110]⟩ : ByteArray), 2, 0, 1⟩ : T_ins_row), (⟨(⟨#[115, 101, 110, 100]⟩ : ByteArray), 0, 2, 0⟩ : T_ins_row), (⟨(⟨#[114, 101, 99, 118]⟩ : ByteArray), 1, 1, 0⟩ : T_ins_row), (⟨(⟨#[100, 114, 97, 119]⟩ : ByteArray), 1, 1, 0⟩ : T_ins_row), (⟨(⟨#[115, 108, 101, 101, 112]⟩ : ByteArray), 0, 1, 0⟩ : T_ins_row), (⟨(⟨#[115, 116, 97, 114, 116]⟩ : ByteArray), 2, 0, 0⟩ : T_ins_row), (⟨(⟨#[112, 114, 105, 110, 116]⟩ : ByteArray), 0, 1, 0⟩ : T_ins_row), (⟨(⟨#[97, 115, 115, 101, 114, 116]⟩ : ByteArray), 0, 1, 0⟩ : T_ins_row), (⟨(⟨#[115, 107, 105, 112]⟩ : ByteArray), 0, 0, 0⟩ : T_ins_row), (⟨(⟨#[115, 116, 111, 112]⟩ : ByteArray), 0, 0, 0⟩ : T_ins_row), (⟨(⟨#[111, 110, 114, 101, 99, 118]⟩ : ByteArray), 2, 1, 0⟩ : T_ins_row), (⟨(⟨#[111, 110, 115, 101, 110, 100]⟩ : ByteArray), 1, 2, 0⟩ : T_ins_row), (⟨(⟨#[97, 102, 116, 101, 114]⟩ : ByteArray), 1, 1, 0⟩ : T_ins_row), (⟨(⟨#[101, 108, 115, 101]⟩ : ByteArray), 1, 0, 0⟩ : T_ins_row), (⟨(⟨#[115, 101, 108, 101, 99, 116]⟩ : ByteArray), 0, 0, 0⟩ : T_ins_row), (⟨(⟨#[101, 110, 100]⟩ : ByteArray), 0, 0, 0⟩ : T_ins_row), (⟨(⟨#[99, 104, 111, 111, 115, 101]⟩ : ByteArray), 0, 0, 0⟩ : T_ins_row)] : List T_ins_row)).length = 26 ∧ ((List.replicate 26 (⟨(⟨#[]⟩ : ByteArray), 0, 0, 0⟩ : T_ins_row))).length = 26) <| grd ((([(⟨(⟨#[]⟩ : ByteArray), 0, 0, 0⟩ : T_ins_row), (⟨(⟨#[109, 97, 114, 107]⟩ : ByteArray), 1, 0, 0⟩ : T_ins_row), (⟨(⟨#[112, 117, 115, 104]⟩ : ByteArray), 1, 0, 1⟩ : T_ins_row), (⟨(⟨#[108, 111, 97, 100]⟩ : ByteArray), 1, 0, 1⟩ : T_ins_row), (⟨(⟨#[115, 116, 111, 114, 101]⟩ : ByteArray), 1, 1, 0⟩ : T_ins_row), (⟨(⟨#[97, 112, 112, 108, 121]⟩ : ByteArray), 1, 0, 1⟩ : T_ins_row), (⟨(⟨#[106, 117, 109, 112]⟩ : ByteArray), 1, 0, 0⟩ : T_ins_row), (⟨(⟨#[122, 101, 114, 111]⟩ : ByteArray), 1, 1, 0⟩ : T_ins_row), (⟨(⟨#[111, 110, 101]⟩ : ByteArray), 1, 1, 0⟩ : T_ins_row), (⟨(⟨#[99, 104, 97, 110]⟩ : ByteArray), 2, 0, 1⟩ : T_ins_row), (⟨(⟨#[115, 101, 110, 100]⟩ : ByteArray), 0, 2, 0⟩ : T_ins_row), (⟨(⟨#[114, 101, 99, 118]⟩ : ByteArray), 1, 1, 0⟩ : T_ins_row), (⟨(⟨#[100, 114, 97, 119]⟩ : ByteArray), 1, 1, 0⟩ : T_ins_row), (⟨(⟨#[115, 108, 101, 101, 112]⟩ : ByteArray), 0, 1, 0⟩ : T_ins_row), (⟨(⟨#[115, 116, 97, 114, 116]⟩ : ByteArray), 2, 0, 0⟩ : T_ins_row), (⟨(⟨#[112, 114, 105, 110, 116]⟩ : ByteArray), 0, 1, 0⟩ : T_ins_row), (⟨(⟨#[97, 115, 115, 101, 114, 116]⟩ : ByteArray), 0, 1, 0⟩ : T_ins_row), (⟨(⟨#[115, 107, 105, 112]⟩ : ByteArray), 0, 0, 0⟩ : T_ins_row), (⟨(⟨#[115, 116, 111, 112]⟩ : ByteArray), 0, 0, 0⟩ : T_ins_row), (⟨(⟨#[111, 110, 114, 101, 99, 118]⟩ : ByteArray), 2, 1, 0⟩ : T_ins_row), (⟨(⟨#[111, 110, 115, 101, 110, 100]⟩ : ByteArray), 1, 2, 0⟩ : T_ins_row), (⟨(⟨#[97, 102, 116, 101, 114]⟩ : ByteArray), 1, 1, 0⟩ : T_ins_row), (⟨(⟨#[101, 108, 115, 101]⟩ : ByteArray), 1, 0, 0⟩ : T_ins_row), (⟨(⟨#[115, 101, 108, 101, 99, 116]⟩ : ByteArray), 0, 0, 0⟩ : T_ins_row), (⟨(⟨#[101, 110, 100]⟩ : ByteArray), 0, 0, 0⟩ : T_ins_row), (⟨(⟨#[99, 104, 111, 111, 115, 101]⟩ : ByteArray), 0, 0, 0⟩ : T_ins_row)] : List T_ins_row)).length = 26) <| some ([(⟨(⟨#[]⟩ : ByteArray), 0, 0, 0⟩ : T_ins_row), (⟨(⟨#[109, 97, 114, 107]⟩ : ByteArray), 1, 0, 0⟩ : T_ins_row), (⟨(⟨#[112, 117, 115, 104]⟩ : ByteArray), 1, 0, 1⟩ : T_ins_row), (⟨(⟨#[108, 111, 97, 100]⟩ : ByteArray), 1, 0, 1⟩ : T_ins_row), (⟨(⟨#[115, 116, 111, 114, 101]⟩ : ByteArray), 1, 1, 0⟩ : T_ins_row), (⟨(⟨#[97, 112, 112, 108, 121]⟩ : ByteArray), 1, 0, 1⟩ : T_ins_row), (⟨(⟨#[106, 117, 109, 112]⟩ : ByteArray), 1, 0, 0⟩ : T_ins_row), (⟨(⟨#[122, 101, 114, 111]⟩ : ByteArray), 1, 1, 0⟩ : T_ins_row), (⟨(⟨#[111, 110, 101]⟩ : ByteArray), 1, 1, 0⟩ : T_ins_row), (⟨(⟨#[99, 104, 97, 110]⟩ : ByteArray), 2, 0, 1⟩ : T_ins_row), (⟨(⟨#[115, 101, 110, 100]⟩ : ByteArray), 0, 2, 0⟩ : T_ins_row), (⟨(⟨#[114, 101, 99, 118]⟩ : ByteArray), 1, 1, 0⟩ : T_ins_row), (⟨(⟨#[100, 114, 97, 119]⟩ : ByteArray), 1, 1, 0⟩ : T_ins_row), (⟨(⟨#[115, 108, 101, 101, 112]⟩ : ByteArray), 0, 1, 0⟩ : T_ins_row), (⟨(⟨#[115, 116, 97, 114, 116]⟩ : ByteArray), 2, 0, 0⟩ : T_ins_row), (⟨(⟨#[112, 114, 105, 110, 116]⟩ : ByteArray), 0, 1, 0⟩ : T_ins_row), (⟨(⟨#[97, 115, 115, 101, 114, 116]⟩ : ByteArray), 0, 1, 0⟩ : T_ins_row), (⟨(⟨#[115, 107, 105, 112]⟩ : ByteArray), 0, 0, 0⟩ : T_ins_row), (⟨(⟨#[115, 116, 111, 112]⟩ : ByteArray), 0, 0, 0⟩ : T_ins_row), (⟨(⟨#[111, 110, 114, 101, 99, 118]⟩ : ByteArray), 2, 1, 0⟩ : T_ins_row), (⟨(⟨#[111, 110, 115, 101, 110, 100]⟩ : ByteArray), 1, 2, 0⟩ : T_ins_row), (⟨(⟨#[97, 102, 116, 101, 114]⟩ : ByteArray), 1, 1, 0⟩ : T_ins_row), (⟨(⟨#[101, 108, 115, 101]⟩ : ByteArray), 1, 0, 0⟩ : T_ins_row), (⟨(⟨#[115, 101, 108, 101, 99, 116]⟩ : ByteArray), 0, 0, 0⟩ : T_ins_row), (⟨(⟨#[101, 110, 100]⟩ : ByteArray), 0, 0, 0⟩ : T_ins_row), (⟨(⟨#[99, 104, 111, 111, 115, 101]⟩ : ByteArray), 0, 0, 0⟩ : T_ins_row)] : List T_ins_row)
noncomputable def F_ins_find_J1 (p0 : Int) (x6 : Bool) : Option (T_ins_row × Bool) :=
  cond x6 (some ((⟨(⟨#[]⟩ : ByteArray), 0, 0, 0⟩ : T_ins_row), false)) ((F_ins_rows).bind fun y10 => (aAt 26 y10 p0).bind fun y11 => some (y11, true))
noncomputable def F_ins_find (p0 : Int) : Option (T_ins_row × Bool) :=
  cond (decide (p0 < 1)) (F_ins_find_J1 p0 true) (F_ins_find_J1 p0 (decide (25 < p0)))
noncomputable def F_ins_Right_J2 (x28 : Bool) : Option (Bool) :=
  some x28
noncomputable def F_ins_Right_J1 (p0 : T_api_Ins) (x20 : Bool) : Option (Bool) :=
  cond x20 (some false) (cond (p0.Op != 14) (cond (p0.Op != 5) (F_ins_Right_J2 true) ((F_arith_Wide p0.A).bind fun y31 => F_ins_Right_J2 (decide (0 < y31)))) (cond (decide (0 ≤ p0.B)) (cond (p0.Op != 5) (F_ins_Right_J2 true) ((F_arith_Wide p0.A).bind fun y34 => F_ins_Right_J2 (decide (0 < y34)))) (F_ins_Right_J2 false)))
noncomputable def F_ins_Right (p0 : T_api_Ins) : Option (Bool) :=
  (F_ins_find p0.Op).bind fun y2 => cond (!y2.2) (F_ins_Right_J1 p0 true) (cond (decide (y2.1.nums < 1)) (cond (p0.A != 0) (F_ins_Right_J1 p0 true) (cond (decide (y2.1.nums < 2)) (F_ins_Right_J1 p0 (p0.B != 0)) (F_ins_Right_J1 p0 false))) (cond (decide (y2.1.nums < 2)) (F_ins_Right_J1 p0 (p0.B != 0)) (F_ins_Right_J1 p0 false)))
noncomputable def F_code_checker_may_1_J1 (x2 : Bool) : Option (Bool) :=
  some x2
noncomputable def F_code_checker_may_1 (p0 : T_api_Chan) (o0 : T_api_Ins) : Option (Bool) :=
  cond (p0.Base == o0.A) (F_code_checker_may_1_J1 (p0.Size == o0.B)) (F_code_checker_may_1_J1 false)
noncomputable def F_slices_IndexFunc_retrace_api_Chan_retrace_api_Chan_L1 (p0 : (List T_api_Chan)) (o0 : T_api_Ins) (x20 : Int) : Option ((Int) ⊕ (Int)) :=
  cond (decide (x20 < ((p0).length : Int))) ((lAt p0 x20).bind fun y32 => (F_code_checker_may_1 y32 o0).bind fun y33 => cond y33 ((some x20).map Sum.inr) (some (.inl (w64 (x20 + 1))))) ((some (-1)).map Sum.inr)
noncomputable def F_slices_IndexFunc_retrace_api_Chan_retrace_api_Chan (p0 : (List T_api_Chan)) (o0 : T_api_Ins) : Option (Int) :=
  Loop (fun s : (Int) => F_slices_IndexFunc_retrace_api_Chan_retrace_api_Chan_L1 p0 o0 s) 0
noncomputable def F_slices_ContainsFunc_retrace_api_Chan_retrace_api_Chan (p0 : (List T_api_Chan)) (o0 : T_api_Ins) : Option (Bool) :=
  (F_slices_IndexFunc_retrace_api_Chan_retrace_api_Chan p0 o0).bind fun y2 => some (decide (0 ≤ y2))
noncomputable def F_patch_Target_J1 (p0 : T_api_Ins) (x19 : Bool) : Option (Int × Bool) :=
  cond x19 (some (p0.A, true)) (cond (p0.Op == 19) (some (p0.B, true)) (some (0, false)))
noncomputable def F_patch_Target (p0 : T_api_Ins) : Option (Int × Bool) :=
  cond (p0.Op == 6) (F_patch_Target_J1 p0 (p0.Op == 6)) (cond (p0.Op == 7) (F_patch_Target_J1 p0 (p0.Op == 7)) (cond (p0.Op == 8) (F_patch_Target_J1 p0 (p0.Op == 8)) (cond (p0.Op == 20) (F_patch_Target_J1 p0 (p0.Op == 20)) (cond (p0.Op == 21) (F_patch_Target_J1 p0 (p0.Op == 21)) (F_patch_Target_J1 p0 (p0.Op == 22))))))
noncomputable def F_code_checker_aimed_J1 (x5 : Bool) : Option (Bool) :=
  some x5
noncomputable def F_code_checker_aimed (p1 : Int) (p2 : Int) (o0 : T_code_checker) : Option (Bool) :=
  cond (decide (o0.from_ ≤ p2)) (cond (decide (p2 < o0.to)) (cond (decide (p1 < p2)) (F_code_checker_aimed_J1 true) ((lAt o0.Code.Ins p2).bind fun y9 => F_code_checker_aimed_J1 (y9.Op == 1))) (F_code_checker_aimed_J1 false)) (F_code_checker_aimed_J1 false)
noncomputable def F_code_acts_J1 (x27 : Bool) : Option (Bool) :=
  cond x27 (some true) (some false)
noncomputable def F_code_acts (p0 : Int) : Option (Bool) :=
  cond (p0 == 4) (F_code_acts_J1 (p0 == 4)) (cond (p0 == 10) (F_code_acts_J1 (p0 == 10)) (cond (p0 == 11) (F_code_acts_J1 (p0 == 11)) (cond (p0 == 12) (F_code_acts_J1 (p0 == 12)) (cond (p0 == 13) (F_code_acts_J1 (p0 == 13)) (cond (p0 == 14) (F_code_acts_J1 (p0 == 14)) (cond (p0 == 15) (F_code_acts_J1 (p0 == 15)) (cond (p0 == 16) (F_code_acts_J1 (p0 == 16)) (F_code_acts_J1 (p0 == 17)))))))))
noncomputable def F_code_chooses_J1 (x4 : Bool) : Option (Bool) :=
  some x4
noncomputable def F_code_chooses (p0 : Int) : Option (Bool) :=
  cond (p0 == 19) (F_code_chooses_J1 true) (cond (p0 == 20) (F_code_chooses_J1 true) (cond (p0 == 21) (F_code_chooses_J1 true) (F_code_chooses_J1 (p0 == 22))))
noncomputable def F_code_checker_rests_J1 (x8 : Bool) : Option (Bool) :=
  some x8
noncomputable def F_code_checker_rests (p1 : Int) (o0 : T_code_checker) : Option (Bool) :=
  (F_code_Settle o0.Code p1).bind fun y2 => cond (decide (o0.from_ ≤ y2)) (cond (decide (y2 < o0.to)) ((lAt o0.Code.Ins y2).bind fun y11 => cond (y11.Op == 1) (F_code_checker_rests_J1 true) ((lAt o0.Code.Ins y2).bind fun y13 => F_code_checker_rests_J1 (y13.Op == 24))) (F_code_checker_rests_J1 false)) (F_code_checker_rests_J1 false)
noncomputable def F_code_checker_may_J4 (x66 : Bool) : Option (Bool) :=
  some x66
noncomputable def F_code_checker_may_J3 (p1 : Int) (o0 : T_code_checker) (y2 : T_api_Ins) (y42 : Int × Bool) (x54 : Bool) : Option (Bool) :=
  cond x54 (some false) ((F_code_acts y2.Op).bind fun y67 => cond (!y67) ((F_code_chooses y2.Op).bind fun y69 => cond (!y69) (F_code_checker_may_J4 true) ((F_code_checker_rests y42.1 o0).bind fun y71 => F_code_checker_may_J4 y71)) ((F_code_checker_rests (w64 (p1 + 1)) o0).bind fun y72 => cond y72 ((F_code_chooses y2.Op).bind fun y74 => cond (!y74) (F_code_checker_may_J4 true) ((F_code_checker_rests y42.1 o0).bind fun y76 => F_code_checker_may_J4 y76)) (F_code_checker_may_J4 false)))
noncomputable def F_code_checker_may_J2 (p1 : Int) (o0 : T_code_checker) (y2 : T_api_Ins) (x40 : Bool) : Option (Bool) :=
  (F_patch_Target y2).bind fun y42 => cond (!x40) (F_code_checker_may_J3 p1 o0 y2 y42 true) (cond y42.2 ((F_code_checker_aimed p1 y42.1 o0).bind fun y79 => F_code_checker_may_J3 p1 o0 y2 y42 (!y79)) (F_code_checker_may_J3 p1 o0 y2 y42 false))
noncomputable def F_code_checker_may_J5 (p1 : Int) (o0 : T_code_checker) (y2 : T_api_Ins) (x85 : Bool) : Option (Bool) :=
  cond x85 (cond (decide (0 ≤ y2.A)) (F_code_checker_may_J2 p1 o0 y2 (decide (y2.A < o0.vars))) (F_code_checker_may_J2 p1 o0 y2 false)) (cond (y2.Op == 9) ((F_slices_ContainsFunc_retrace_api_Chan_retrace_api_Chan o0.Code.Chans y2).bind fun y89 => F_code_checker_may_J2 p1 o0 y2 y89) (cond (y2.Op == 14) (cond (decide (0 ≤ y2.A)) (cond (decide (y2.A < ((o0.Code.Defs).length : Int))) ((lAt o0.Code.Defs y2.A).bind fun y93 => F_code_checker_may_J2 p1 o0 y2 (y2.B == y93.Params)) (F_code_checker_may_J2 p1 o0 y2 false)) (F_code_checker_may_J2 p1 o0 y2 false)) (F_code_checker_may_J2 p1 o0 y2 true)))
noncomputable def F_code_checker_may_J1 (p1 : Int) (o0 : T_code_checker) (y2 : T_api_Ins) (x20 : Bool) : Option (Bool) :=
  cond x20 (some false) (cond (y2.Op == 1) (F_code_checker_may_J2 p1 o0 y2 (y2.A == o0.marks)) (cond (y2.Op == 3) (F_code_checker_may_J5 p1 o0 y2 (y2.Op == 3)) (cond (y2.Op == 4) (F_code_checker_may_J5 p1 o0 y2 (y2.Op == 4)) (cond (y2.Op == 11) (F_code_checker_may_J5 p1 o0 y2 (y2.Op == 11)) (cond (y2.Op == 12) (F_code_checker_may_J5 p1 o0 y2 (y2.Op == 12)) (F_code_checker_may_J5 p1 o0 y2 (y2.Op == 19)))))))
noncomputable def F_code_checker_may (p1 : Int) (o0 : T_code_checker) : Option (Bool) :=
  (lAt o0.Code.Ins p1).bind fun y2 => (F_ins_Right y2).bind fun y98 => cond (!y98) (F_code_checker_may_J1 p1 o0 y2 true) (cond (!((y2.Op == 24) == (p1 == (w64 (o0.to - 1))))) (F_code_checker_may_J1 p1 o0 y2 true) (cond (p1 == o0.from_) (cond (y2.Op != 1) (F_code_checker_may_J1 p1 o0 y2 (y2.Op != 24)) (F_code_checker_may_J1 p1 o0 y2 false)) (F_code_checker_may_J1 p1 o0 y2 false)))
noncomputable def F_ins_Takes_J1 (p0 : T_api_Ins) (y2 : T_ins_row × Bool) (x21 : Bool) : Option (Int) :=
  cond x21 (some 1) (cond (p0.Op == 14) (some p0.B) (some y2.1.takes))
noncomputable def F_ins_Takes (p0 : T_api_Ins) : Option (Int) :=
  (F_ins_find p0.Op).bind fun y2 => (F_ins_Right p0).bind fun y15 => cond (!y15) (some 0) (cond (p0.Op == 5) ((F_arith_Wide p0.A).bind fun y19 => some y19) (cond (p0.Op == 9) (F_ins_Takes_J1 p0 y2 (decide (0 < p0.B))) (F_ins_Takes_J1 p0 y2 false)))
noncomputable def F_ins_Gives_J1 (y10 : T_ins_row × Bool) (x13 : Bool) : Option (Int) :=
  cond x13 (some y10.1.gives) (some 0)
noncomputable def F_ins_Gives (p0 : T_api_Ins) : Option (Int) :=
  (F_ins_find p0.Op).bind fun y10 => cond y10.2 ((F_ins_Right p0).bind fun y16 => F_ins_Gives_J1 y10 y16) (F_ins_Gives_J1 y10 false)
noncomputable def F_code_fits_J1 (p0 : T_api_Ins) (p1 : T_code_there) (y2 : Int) (x23 : Bool) (x24 : Bool) : Option (T_code_there × Bool) :=
  (F_ins_Gives p0).bind fun y26 => some ((⟨(w64 ((w64 (p1.n - y2)) + y26)), x24⟩ : T_code_there), x23)
noncomputable def F_code_fits_J3 (p0 : T_api_Ins) (p1 : T_code_there) (y2 : Int) (x39 : Bool) : Option (T_code_there × Bool) :=
  cond x39 (cond ((w64 (p1.n - y2)) == 0) (F_code_fits_J1 p0 p1 y2 (!p1.choose) p1.choose) (F_code_fits_J1 p0 p1 y2 false p1.choose)) (F_code_fits_J1 p0 p1 y2 (decide (0 ≤ (w64 (p1.n - y2)))) p1.choose)
noncomputable def F_code_fits_J2 (p0 : T_api_Ins) (p1 : T_code_there) (y2 : Int) (x29 : Bool) : Option (T_code_there × Bool) :=
  cond x29 (F_code_fits_J1 p0 p1 y2 ((p1.n == 0) && ((p1.choose == false) && true)) (p0.Op == 25)) (cond (p0.Op == 23) (F_code_fits_J1 p0 p1 y2 ((p1.n == 0) && ((p1.choose == true) && true)) p1.choose) ((F_code_chooses p0.Op).bind fun y33 => cond y33 (cond ((w64 (p1.n - y2)) == 0) (F_code_fits_J1 p0 p1 y2 p1.choose p1.choose) (F_code_fits_J1 p0 p1 y2 false p1.choose)) ((F_code_acts p0.Op).bind fun y43 => cond y43 (F_code_fits_J3 p0 p1 y2 y43) (F_code_fits_J3 p0 p1 y2 (p0.Op == 18)))))
noncomputable def F_code_fits (p0 : T_api_Ins) (p1 : T_code_there) : Option (T_code_there × Bool) :=
  (F_ins_Takes p0).bind fun y2 => cond (p0.Op == 1) (F_code_fits_J2 p0 p1 y2 (p0.Op == 1)) (cond (p0.Op == 24) (F_code_fits_J2 p0 p1 y2 (p0.Op == 24)) (F_code_fits_J2 p0 p1 y2 (p0.Op == 25)))
noncomputable def F_code_checker_flow_1 (p0 : Int) (p1 : T_code_there) (o2_0 : Int) (o3_0 : Bool) (o1 : (List (Int × T_code_there))) : Option (Bool × (List (Int × T_code_there))) :=
  Let (mGet o1 p0) fun y2 => cond (decide (p0 ≤ o2_0)) (cond o3_0 (some (((p1.n == 0) && ((p1.choose == false) && true)), o1)) (some (false, o1))) (cond y2.isSome (cond o3_0 (some (((p1.n == ((y2.getD (⟨0, false⟩ : T_code_there)).n)) && ((p1.choose == ((y2.getD (⟨0, false⟩ : T_code_there)).choose)) && true)), o1)) (some (false, o1))) (some (o3_0, (mPut o1 p0 p1))))
noncomputable def F_code_checker_flow_J1 (x139 : Int) (x207 : (List (Int × T_code_there))) : Option (((List (Int × T_code_there)) × Int) ⊕ (Int × Bool)) :=
  some (.inl (x207, (w64 (x139 + 1))))
noncomputable def F_code_checker_flow_J4 (x139 : Int) (x245 : (List (Int × T_code_there))) (x246 : Bool) : Option (((List (Int × T_code_there)) × Int) ⊕ (Int × Bool)) :=
  cond (!x246) ((some (x139, false)).map Sum.inr) (F_code_checker_flow_J1 x139 x245)
noncomputable def F_code_checker_flow_J5 (x139 : Int) (y220 : T_code_there × Bool) (x232 : (List (Int × T_code_there))) (x233 : Bool) (x254 : Bool) : Option (((List (Int × T_code_there)) × Int) ⊕ (Int × Bool)) :=
  cond x254 ((F_code_checker_flow_1 (w64 (x139 + 1)) y220.1 x139 x233 x232).bind fun y256 => F_code_checker_flow_J4 x139 y256.2 y256.1) (F_code_checker_flow_J4 x139 x232 x233)
noncomputable def F_code_checker_flow_J3 (x139 : Int) (y211 : T_api_Ins) (y220 : T_code_there × Bool) (x232 : (List (Int × T_code_there))) (x233 : Bool) : Option (((List (Int × T_code_there)) × Int) ⊕ (Int × Bool)) :=
  cond x233 (cond (y211.Op != 6) (cond (y211.Op != 18) (cond (y211.Op != 23) (F_code_checker_flow_J5 x139 y220 x232 x233 (y211.Op != 24)) (F_code_checker_flow_J5 x139 y220 x232 x233 false)) (F_code_checker_flow_J5 x139 y220 x232 x233 false)) (F_code_checker_flow_J5 x139 y220 x232 x233 false)) (F_code_checker_flow_J5 x139 y220 x232 x233 false)
noncomputable def F_code_checker_flow_J6 (x138 : (List (Int × T_code_there))) (x139 : Int) (y211 : T_api_Ins) (y220 : T_code_there × Bool) (y262 : Int × Bool) (x264 : Bool) : Option (((List (Int × T_code_there)) × Int) ⊕ (Int × Bool)) :=
  cond x264 ((F_code_chooses y211.Op).bind fun y267 => cond y267 ((F_code_checker_flow_1 y262.1 (⟨0, false⟩ : T_code_there) x139 y220.2 x138).bind fun y269 => F_code_checker_flow_J3 x139 y211 y220 y269.2 y269.1) ((F_code_checker_flow_1 y262.1 y220.1 x139 y220.2 x138).bind fun y270 => F_code_checker_flow_J3 x139 y211 y220 y270.2 y270.1)) (F_code_checker_flow_J3 x139 y211 y220 x138 y220.2)
noncomputable def F_code_checker_flow_J2 (x138 : (List (Int × T_code_there))) (x139 : Int) (y209 : (Option T_code_there)) (y211 : T_api_Ins) (x217 : Bool) : Option (((List (Int × T_code_there)) × Int) ⊕ (Int × Bool)) :=
  cond x217 (F_code_checker_flow_J1 x139 x138) ((F_code_fits y211 (y209.getD (⟨0, false⟩ : T_code_there))).bind fun y220 => (F_patch_Target y211).bind fun y262 => cond y262.2 (F_code_checker_flow_J6 x138 x139 y211 y220 y262 y220.2) (F_code_checker_flow_J6 x138 x139 y211 y220 y262 false))
noncomputable def F_code_checker_flow_L7 (o0 : T_code_checker) (x138 : (List (Int × T_code_there))) (x139 : Int) : Option (((List (Int × T_code_there)) × Int) ⊕ (Int × Bool)) :=
  cond (decide (x139 < o0.to)) (Let (mGet x138 x139) fun y209 => (lAt o0.Code.Ins x139).bind fun y211 => cond (!y209.isSome) (F_code_checker_flow_J2 x138 x139 y209 y211 (y211.Op != 1)) (F_code_checker_flow_J2 x138 x139 y209 y211 false)) ((some (0, true)).map Sum.inr)
noncomputable def F_code_checker_flow (o0 : T_code_checker) : Option (Int × Bool) :=
  Loop (fun s : ((List (Int × T_code_there)) × Int) => F_code_checker_flow_L7 o0 s.1 s.2) (([(o0.from_, (⟨0, false⟩ : T_code_there))] : List (Int × T_code_there)), o0.from_)
noncomputable def F_code_Check_J1 (x134 : Int) (x149 : Int) : Option ((Int × Int) ⊕ ((Int × (List T_api_Ins) × (List T_api_Def) × (List T_api_Chan) × Int × Int × Int × Int × Int × Int) ⊕ (Int × Int))) :=
  some (.inl ((w64 (x134 + 1)), x149))
noncomputable def F_code_Check_L2 (p0 : T_api_Code) (x87 : Int) (y133 : T_code_checker) (x134 : Int) (x135 : Int) : Option ((Int × Int) ⊕ ((Int × (List T_api_Ins) × (List T_api_Def) × (List T_api_Chan) × Int × Int × Int × Int × Int × Int) ⊕ (Int × Int))) :=
  cond (decide (x134 < y133.to)) ((F_code_checker_may x134 (⟨y133.Code, x135, y133.from_, y133.to, y133.vars⟩ : T_code_checker)).bind fun y154 => cond (!y154) (((some (x134, 15)).map Sum.inr).map Sum.inr) ((lAt p0.Ins x134).bind fun y161 => cond (y161.Op == 1) (F_code_Check_J1 x134 (w64 (x135 + 1))) (F_code_Check_J1 x134 x135))) ((some (.inl ((w64 (x87 + 1)), y133.Code.Ins, y133.Code.Defs, y133.Code.Chans, y133.Code.Main, y133.Code.Stmts, x135, y133.from_, y133.to, y133.vars))).map Sum.inr)
noncomputable def F_code_Check_L3 (p0 : T_api_Code) (x197 : Int) (x198 : (List T_api_Ins)) (x199 : (List T_api_Def)) (x200 : (List T_api_Chan)) (x201 : Int) (x202 : Int) (x203 : Int) (x204 : Int) (x205 : Int) (x206 : Int) : Option ((Int × (List T_api_Ins) × (List T_api_Def) × (List T_api_Chan) × Int × Int × Int × Int × Int × Int) ⊕ (Int × Int)) :=
  cond (decide (x197 < ((p0.Defs).length : Int))) ((F_code_checker_routine x197 (⟨(⟨x198, x199, x200, x201, x202⟩ : T_api_Code), x203, x204, x205, x206⟩ : T_code_checker)).bind fun y217 => (F_code_checker_flow y217).bind fun y219 => cond (!y219.2) ((some (y219.1, 14)).map Sum.inr) (some (.inl ((w64 (x197 + 1)), y217.Code.Ins, y217.Code.Defs, y217.Code.Chans, y217.Code.Main, y217.Code.Stmts, y217.marks, y217.from_, y217.to, y217.vars)))) ((some (0, 0)).map Sum.inr)
end Go.Ab
end

section
namespace Go.Ab
set_option linter.unusedVariables false

theorem ok_Letter (p : Int) : Ok (F_retraceref08_Letter p) := by
  have j : ∀ x, Ok (F_retraceref08_Letter_J1 x) := fun x => OkP.rett _
  unfold F_retraceref08_Letter; repeat' (first | exact j _ | (with_reducible first | exact OkP.rett _ | refine OkP.condN (fun _ => ?_) (fun _ => ?_) | refine OkP.condD (fun _ => ?_) (fun _ => ?_) | refine OkP.condE (fun _ => ?_) (fun _ => ?_) | refine OkP.condNE (fun _ => ?_) (fun _ => ?_) | refine OkP.condB (fun _ => ?_) (fun _ => ?_) | refine OkP.map ?_ | refine OkP.ret ?_ | refine OkP.at (by omega) (by omega) (fun _ _ => ?_) | refine OkP.sat (by omega) (by omega) (fun _ _ => ?_) | assumption))
theorem ok_Digit (p : Int) : Ok (F_retraceref08_Digit p) := by
  have j : ∀ x, Ok (F_retraceref08_Digit_J1 x) := fun x => OkP.rett _
  unfold F_retraceref08_Digit; repeat' (first | exact j _ | (with_reducible first | exact OkP.rett _ | refine OkP.condN (fun _ => ?_) (fun _ => ?_) | refine OkP.condD (fun _ => ?_) (fun _ => ?_) | refine OkP.condE (fun _ => ?_) (fun _ => ?_) | refine OkP.condNE (fun _ => ?_) (fun _ => ?_) | refine OkP.condB (fun _ => ?_) (fun _ => ?_) | refine OkP.map ?_ | refine OkP.ret ?_ | refine OkP.at (by omega) (by omega) (fun _ _ => ?_) | refine OkP.sat (by omega) (by omega) (fun _ _ => ?_) | assumption))
theorem ok_In (l : List ByteArray) (p : ByteArray) (hl : l.length < 9223372036854775808) : Ok (F_retraceref08_In p l) := by
  unfold F_retraceref08_In
  refine Loop_up l.length hl (fun _ => True) (fun i h0 h1 _ => ?_) trivial
  unfold F_retraceref08_In_L1
  (repeat' (with_reducible first | exact OkP.rett _ | refine OkP.condN (fun _ => ?_) (fun _ => ?_) | refine OkP.condD (fun _ => ?_) (fun _ => ?_) | refine OkP.condE (fun _ => ?_) (fun _ => ?_) | refine OkP.condNE (fun _ => ?_) (fun _ => ?_) | refine OkP.condB (fun _ => ?_) (fun _ => ?_) | refine OkP.map ?_ | refine OkP.ret ?_ | refine OkP.at (by omega) (by omega) (fun _ _ => ?_) | refine OkP.sat (by omega) (by omega) (fun _ _ => ?_) | assumption))
  all_goals first | trivial | exact ⟨by omega, rfl, trivial⟩
theorem ok_Name (p : ByteArray) (hp : p.size ≤ maxLen) : Ok (F_retraceref08_Name p) := by
  unfold F_retraceref08_Name
  have hm : maxLen = 9223372036854775807 := rfl
  refine Loop_up p.size (by omega) (fun _ => True) (fun i h0 h1 _ => ?_) trivial
  have j : ∀ x, i < p.size → OkP (F_retraceref08_Name_J1 i x) (Sum.elim (fun j => i < p.size ∧ j = w64 (i + 1) ∧ True) (fun _ => True)) := fun x h => by
    unfold F_retraceref08_Name_J1; (repeat' (with_reducible first | exact OkP.rett _ | refine OkP.condN (fun _ => ?_) (fun _ => ?_) | refine OkP.condD (fun _ => ?_) (fun _ => ?_) | refine OkP.condE (fun _ => ?_) (fun _ => ?_) | refine OkP.condNE (fun _ => ?_) (fun _ => ?_) | refine OkP.condB (fun _ => ?_) (fun _ => ?_) | refine OkP.map ?_ | refine OkP.ret ?_ | refine OkP.at (by omega) (by omega) (fun _ _ => ?_) | refine OkP.sat (by omega) (by omega) (fun _ _ => ?_) | assumption))
    all_goals first | trivial | exact ⟨by omega, rfl, trivial⟩
  have j2 : ∀ x, OkP (F_retraceref08_Name_J2 x) (fun b => Sum.elim (fun j => i < p.size ∧ j = w64 (i + 1) ∧ True) (fun _ => True) (Sum.inr b : Int ⊕ Bool)) := fun x => ⟨_, rfl, trivial⟩
  have hw : Ok (F_retraceref08_Words) := OkP.rett _
  unfold F_retraceref08_Name_L3
  repeat' (first | exact j _ (by omega) | exact j2 _ | (with_reducible first | exact OkP.rett _ | refine OkP.condN (fun _ => ?_) (fun _ => ?_) | refine OkP.condD (fun _ => ?_) (fun _ => ?_) | refine OkP.condE (fun _ => ?_) (fun _ => ?_) | refine OkP.condNE (fun _ => ?_) (fun _ => ?_) | refine OkP.condB (fun _ => ?_) (fun _ => ?_) | refine OkP.map ?_ | refine OkP.ret ?_ | refine OkP.at (by omega) (by omega) (fun _ _ => ?_) | refine OkP.sat (by omega) (by omega) (fun _ _ => ?_) | assumption) | refine OkP.bind (ok_Letter _) (fun _ _ _ => ?_) | refine OkP.bind (ok_Digit _) (fun _ _ _ => ?_))
  refine OkP.bind hw fun y e _ => OkP.bind (ok_In y p ?_) fun _ _ _ => j2 _
  obtain rfl := Option.some.inj e
  decide

structure CSmall (c : T_api_Code) : Prop where
  ins : c.Ins.length ≤ 150
  defs : c.Defs.length ≤ 40
  chans : c.Chans.length ≤ 80
  dn : ∀ d ∈ c.Defs, d.Name.size ≤ maxLen
  cn : ∀ d ∈ c.Chans, d.Name.size ≤ maxLen
def CGood (c : T_api_Code) : Prop := ∀ d ∈ c.Defs, 0 ≤ d.Entry ∧ d.Entry < c.Ins.length

theorem ok_tables (c : T_api_Code) (h : CSmall c) : OkP (F_retraceref20_tables c) (fun b => b = true → CGood c) := by
  have hi := h.ins
  have hd := h.defs
  have hc := h.chans
  have l6 : Ok (Loop (fun s : (Int × Int) => F_retraceref20_tables_L6 c s.1 s.2) (0, 0)) := by
    refine Loop_ok (fun s : Int × Int => 0 ≤ s.2 ∧ s.2 ≤ c.Chans.length) (fun s : Int × Int => (c.Chans.length - s.2).toNat) (fun s ⟨a, b⟩ => ?_) _ ⟨by simp, by simp⟩
    obtain ⟨u, i⟩ := s
    replace a : 0 ≤ i := a
    replace b : i ≤ c.Chans.length := b
    have j4 : ∀ v, i < c.Chans.length → OkP (F_retraceref20_tables_J4 i v) (Sum.elim (fun s' : Int × Int => (0 ≤ s'.2 ∧ s'.2 ≤ c.Chans.length) ∧ (c.Chans.length - s'.2).toNat < (c.Chans.length - i).toNat) (fun _ => True)) := fun v hv => by
      refine ⟨_, rfl, ?_⟩
      rw [w64i (by omega) (by omega)]
      show (0 ≤ i + 1 ∧ i + 1 ≤ _) ∧ (c.Chans.length - (i + 1)).toNat < _
      omega
    have j5 : ∀ y x, i < c.Chans.length → OkP (F_retraceref20_tables_J5 u i y x) (Sum.elim (fun s' : Int × Int => (0 ≤ s'.2 ∧ s'.2 ≤ c.Chans.length) ∧ (c.Chans.length - s'.2).toNat < (c.Chans.length - i).toNat) (fun _ => True)) := fun y x hv => by
      unfold F_retraceref20_tables_J5
      repeat' (first | exact j4 _ hv | (with_reducible first | exact OkP.rett _ | refine OkP.condN (fun _ => ?_) (fun _ => ?_) | refine OkP.condD (fun _ => ?_) (fun _ => ?_) | refine OkP.condE (fun _ => ?_) (fun _ => ?_) | refine OkP.condNE (fun _ => ?_) (fun _ => ?_) | refine OkP.condB (fun _ => ?_) (fun _ => ?_) | refine OkP.map ?_ | refine OkP.ret ?_ | refine OkP.at (by omega) (by omega) (fun _ _ => ?_) | refine OkP.sat (by omega) (by omega) (fun _ _ => ?_) | assumption))
      all_goals trivial
    show OkP (F_retraceref20_tables_L6 c u i) _
    unfold F_retraceref20_tables_L6
    refine OkP.condD (fun hv => ?_) (fun _ => OkP.map (OkP.ret trivial))
    refine OkP.at a hv fun y ey => OkP.bind (ok_Name _ (h.cn y (lAt_mem ey))) fun _ _ _ => ?_
    repeat' (first | exact j5 _ _ hv | (with_reducible first | exact OkP.rett _ | refine OkP.condN (fun _ => ?_) (fun _ => ?_) | refine OkP.condD (fun _ => ?_) (fun _ => ?_) | refine OkP.condE (fun _ => ?_) (fun _ => ?_) | refine OkP.condNE (fun _ => ?_) (fun _ => ?_) | refine OkP.condB (fun _ => ?_) (fun _ => ?_) | refine OkP.map ?_ | refine OkP.ret ?_ | refine OkP.at (by omega) (by omega) (fun _ _ => ?_) | refine OkP.sat (by omega) (by omega) (fun _ _ => ?_) | assumption))
  have l7 : OkP (Loop (fun s : (Int) => F_retraceref20_tables_L7 c s) 0) (fun b => b = true → CGood c) := by
    refine Loop_up c.Defs.length (by omega) (fun i => ∀ k d, 0 ≤ k → k < i → lAt c.Defs k = some d → 0 ≤ d.Entry ∧ d.Entry < c.Ins.length) (fun i h0 h1 hg => ?_) (fun k d a b => by omega)
    unfold F_retraceref20_tables_L7
    refine OkP.condD (fun hv => ?_) (fun hv => ?_)
    · refine OkP.at h0 hv fun y ey => ?_
      have j3 : ∀ x, 0 ≤ y.Entry → y.Entry < c.Ins.length → OkP (F_retraceref20_tables_J3 i x) (Sum.elim (fun j => i < c.Defs.length ∧ j = w64 (i + 1) ∧ (∀ k d, 0 ≤ k → k < i + 1 → lAt c.Defs k = some d → 0 ≤ d.Entry ∧ d.Entry < c.Ins.length)) (fun b => b = true → CGood c)) := fun x p q => by
        unfold F_retraceref20_tables_J3
        refine OkP.condB (fun _ => OkP.map (OkP.ret (fun h => by cases h))) (fun _ => OkP.ret ⟨hv, rfl, fun k d a b e => ?_⟩)
        by_cases hk : k = i
        · subst hk; rw [ey] at e; cases e; exact ⟨p, q⟩
        · exact hg k d a (by omega) e
      have j2t : OkP (F_retraceref20_tables_J2 i y true) (Sum.elim (fun j => i < c.Defs.length ∧ j = w64 (i + 1) ∧ (∀ k d, 0 ≤ k → k < i + 1 → lAt c.Defs k = some d → 0 ≤ d.Entry ∧ d.Entry < c.Ins.length)) (fun b => b = true → CGood c)) := ⟨_, rfl, fun h => by cases h⟩
      have j2 : ∀ x, 0 ≤ y.Entry → y.Entry < c.Ins.length → OkP (F_retraceref20_tables_J2 i y x) (Sum.elim (fun j => i < c.Defs.length ∧ j = w64 (i + 1) ∧ (∀ k d, 0 ≤ k → k < i + 1 → lAt c.Defs k = some d → 0 ≤ d.Entry ∧ d.Entry < c.Ins.length)) (fun b => b = true → CGood c)) := fun x p q => by
        unfold F_retraceref20_tables_J2
        refine OkP.condB (fun _ => OkP.map (OkP.ret (fun h => by cases h))) (fun _ => ?_)
        repeat' (first | exact j3 _ p q | (with_reducible first | exact OkP.rett _ | refine OkP.condN (fun _ => ?_) (fun _ => ?_) | refine OkP.condD (fun _ => ?_) (fun _ => ?_) | refine OkP.condE (fun _ => ?_) (fun _ => ?_) | refine OkP.condNE (fun _ => ?_) (fun _ => ?_) | refine OkP.condB (fun _ => ?_) (fun _ => ?_) | refine OkP.map ?_ | refine OkP.ret ?_ | refine OkP.at (by omega) (by omega) (fun _ _ => ?_) | refine OkP.sat (by omega) (by omega) (fun _ _ => ?_) | assumption))
      have e1 : w64 (i - 1) = i - 1 := w64i (by omega) (by omega)
      rw [e1]
      refine OkP.condN (fun _ => ?_) (fun _ => ?_)
      · refine OkP.bind (ok_Name _ (h.dn y (lAt_mem ey))) fun _ _ _ => ?_
        repeat' (first | exact j2t | exact j2 _ (by omega) (by omega) | (with_reducible first | exact OkP.rett _ | refine OkP.condN (fun _ => ?_) (fun _ => ?_) | refine OkP.condD (fun _ => ?_) (fun _ => ?_) | refine OkP.condE (fun _ => ?_) (fun _ => ?_) | refine OkP.condNE (fun _ => ?_) (fun _ => ?_) | refine OkP.condB (fun _ => ?_) (fun _ => ?_) | refine OkP.map ?_ | refine OkP.ret ?_ | refine OkP.at (by omega) (by omega) (fun _ _ => ?_) | refine OkP.sat (by omega) (by omega) (fun _ _ => ?_) | assumption))
      · repeat' (first | exact j2t | exact j2 _ (by omega) (by omega) | (with_reducible first | exact OkP.rett _ | refine OkP.condN (fun _ => ?_) (fun _ => ?_) | refine OkP.condD (fun _ => ?_) (fun _ => ?_) | refine OkP.condE (fun _ => ?_) (fun _ => ?_) | refine OkP.condNE (fun _ => ?_) (fun _ => ?_) | refine OkP.condB (fun _ => ?_) (fun _ => ?_) | refine OkP.map ?_ | refine OkP.ret ?_ | refine OkP.at (by omega) (by omega) (fun _ _ => ?_) | refine OkP.sat (by omega) (by omega) (fun _ _ => ?_) | assumption))
    · refine OkP.map (l6.mono fun b _ _ _ d hd => ?_)
      obtain ⟨k, hk, e⟩ := List.getElem_of_mem hd
      exact hg k d (by omega) (by omega) (by rw [lAt_lt hk, e])
  have j1 : ∀ x, OkP (F_retraceref20_tables_J1 c x) (fun b => b = true → CGood c) := fun x => by
    unfold F_retraceref20_tables_J1
    exact OkP.condB (fun _ => OkP.ret (fun h => by cases h)) (fun _ => l7)
  unfold F_retraceref20_tables
  repeat' (first | exact j1 _ | (with_reducible first | exact OkP.rett _ | refine OkP.condN (fun _ => ?_) (fun _ => ?_) | refine OkP.condD (fun _ => ?_) (fun _ => ?_) | refine OkP.condE (fun _ => ?_) (fun _ => ?_) | refine OkP.condNE (fun _ => ?_) (fun _ => ?_) | refine OkP.condB (fun _ => ?_) (fun _ => ?_) | refine OkP.map ?_ | refine OkP.ret ?_ | refine OkP.at (by omega) (by omega) (fun _ _ => ?_) | refine OkP.sat (by omega) (by omega) (fun _ _ => ?_) | assumption))

theorem ok_To (c : T_api_Code) (h : CSmall c) (hg : CGood c) (d : Int) (h0 : 0 ≤ d) (h1 : d < c.Defs.length) : OkP (F_retraceref20_To c d) (fun t => t ≤ c.Ins.length) := by
  have hi := h.defs
  unfold F_retraceref20_To
  rw [w64i (by omega) (by omega)]
  refine OkP.condD (fun hv => OkP.at (by omega) hv fun y ey => OkP.ret ?_) (fun _ => OkP.ret (Int.le_refl _))
  have := hg y (lAt_mem ey)
  omega
theorem ok_Nums (p : Int) : Ok (F_retraceref16_Nums p) := by
  have j2 : ∀ x, Ok (F_retraceref16_Nums_J2 x) := fun x => by unfold F_retraceref16_Nums_J2; (repeat' (with_reducible first | exact OkP.rett _ | refine OkP.condN (fun _ => ?_) (fun _ => ?_) | refine OkP.condD (fun _ => ?_) (fun _ => ?_) | refine OkP.condE (fun _ => ?_) (fun _ => ?_) | refine OkP.condNE (fun _ => ?_) (fun _ => ?_) | refine OkP.condB (fun _ => ?_) (fun _ => ?_) | refine OkP.map ?_ | refine OkP.ret ?_ | refine OkP.at (by omega) (by omega) (fun _ _ => ?_) | refine OkP.sat (by omega) (by omega) (fun _ _ => ?_) | assumption))
  have j1 : ∀ x, Ok (F_retraceref16_Nums_J1 p x) := fun x => by unfold F_retraceref16_Nums_J1; repeat' (first | exact j2 _ | (with_reducible first | exact OkP.rett _ | refine OkP.condN (fun _ => ?_) (fun _ => ?_) | refine OkP.condD (fun _ => ?_) (fun _ => ?_) | refine OkP.condE (fun _ => ?_) (fun _ => ?_) | refine OkP.condNE (fun _ => ?_) (fun _ => ?_) | refine OkP.condB (fun _ => ?_) (fun _ => ?_) | refine OkP.map ?_ | refine OkP.ret ?_ | refine OkP.at (by omega) (by omega) (fun _ _ => ?_) | refine OkP.sat (by omega) (by omega) (fun _ _ => ?_) | assumption))
  unfold F_retraceref16_Nums; repeat' (first | exact j1 _ | (with_reducible first | exact OkP.rett _ | refine OkP.condN (fun _ => ?_) (fun _ => ?_) | refine OkP.condD (fun _ => ?_) (fun _ => ?_) | refine OkP.condE (fun _ => ?_) (fun _ => ?_) | refine OkP.condNE (fun _ => ?_) (fun _ => ?_) | refine OkP.condB (fun _ => ?_) (fun _ => ?_) | refine OkP.map ?_ | refine OkP.ret ?_ | refine OkP.at (by omega) (by omega) (fun _ _ => ?_) | refine OkP.sat (by omega) (by omega) (fun _ _ => ?_) | assumption))
theorem ok_IRight (p : T_api_Ins) : Ok (F_retraceref16_Right p) := by
  have j2 : ∀ x, Ok (F_retraceref16_Right_J2 x) := fun x => by unfold F_retraceref16_Right_J2; (repeat' (with_reducible first | exact OkP.rett _ | refine OkP.condN (fun _ => ?_) (fun _ => ?_) | refine OkP.condD (fun _ => ?_) (fun _ => ?_) | refine OkP.condE (fun _ => ?_) (fun _ => ?_) | refine OkP.condNE (fun _ => ?_) (fun _ => ?_) | refine OkP.condB (fun _ => ?_) (fun _ => ?_) | refine OkP.map ?_ | refine OkP.ret ?_ | refine OkP.at (by omega) (by omega) (fun _ _ => ?_) | refine OkP.sat (by omega) (by omega) (fun _ _ => ?_) | assumption))
  have j1 : ∀ x, Ok (F_retraceref16_Right_J1 p x) := fun x => by unfold F_retraceref16_Right_J1; repeat' (first | exact j2 _ | (with_reducible first | exact OkP.rett _ | refine OkP.condN (fun _ => ?_) (fun _ => ?_) | refine OkP.condD (fun _ => ?_) (fun _ => ?_) | refine OkP.condE (fun _ => ?_) (fun _ => ?_) | refine OkP.condNE (fun _ => ?_) (fun _ => ?_) | refine OkP.condB (fun _ => ?_) (fun _ => ?_) | refine OkP.map ?_ | refine OkP.ret ?_ | refine OkP.at (by omega) (by omega) (fun _ _ => ?_) | refine OkP.sat (by omega) (by omega) (fun _ _ => ?_) | assumption))
  unfold F_retraceref16_Right
  refine OkP.bind (ok_Nums _) fun _ _ _ => ?_
  repeat' (first | exact j1 _ | (with_reducible first | exact OkP.rett _ | refine OkP.condN (fun _ => ?_) (fun _ => ?_) | refine OkP.condD (fun _ => ?_) (fun _ => ?_) | refine OkP.condE (fun _ => ?_) (fun _ => ?_) | refine OkP.condNE (fun _ => ?_) (fun _ => ?_) | refine OkP.condB (fun _ => ?_) (fun _ => ?_) | refine OkP.map ?_ | refine OkP.ret ?_ | refine OkP.at (by omega) (by omega) (fun _ _ => ?_) | refine OkP.sat (by omega) (by omega) (fun _ _ => ?_) | assumption))
theorem ok_channel (c : T_api_Code) (h : CSmall c) (a b : Int) : Ok (F_retraceref20_channel c a b) := by
  have hi := h.chans
  unfold F_retraceref20_channel
  refine Loop_up c.Chans.length (by omega) (fun _ => True) (fun i h0 h1 _ => ?_) trivial
  have j : ∀ x, i < c.Chans.length → OkP (F_retraceref20_channel_J1 i x) (Sum.elim (fun j => i < c.Chans.length ∧ j = w64 (i + 1) ∧ True) (fun _ => True)) := fun x h => by
    unfold F_retraceref20_channel_J1; (repeat' (with_reducible first | exact OkP.rett _ | refine OkP.condN (fun _ => ?_) (fun _ => ?_) | refine OkP.condD (fun _ => ?_) (fun _ => ?_) | refine OkP.condE (fun _ => ?_) (fun _ => ?_) | refine OkP.condNE (fun _ => ?_) (fun _ => ?_) | refine OkP.condB (fun _ => ?_) (fun _ => ?_) | refine OkP.map ?_ | refine OkP.ret ?_ | refine OkP.at (by omega) (by omega) (fun _ _ => ?_) | refine OkP.sat (by omega) (by omega) (fun _ _ => ?_) | assumption))
    all_goals first | trivial | exact ⟨by omega, rfl, trivial⟩
  unfold F_retraceref20_channel_L2
  repeat' (first | exact j _ (by omega) | (with_reducible first | exact OkP.rett _ | refine OkP.condN (fun _ => ?_) (fun _ => ?_) | refine OkP.condD (fun _ => ?_) (fun _ => ?_) | refine OkP.condE (fun _ => ?_) (fun _ => ?_) | refine OkP.condNE (fun _ => ?_) (fun _ => ?_) | refine OkP.condB (fun _ => ?_) (fun _ => ?_) | refine OkP.map ?_ | refine OkP.ret ?_ | refine OkP.at (by omega) (by omega) (fun _ _ => ?_) | refine OkP.sat (by omega) (by omega) (fun _ _ => ?_) | assumption))
  all_goals trivial
theorem ok_Which (p : Int) : Ok (F_retraceref17_Which p) := by
  have j1 : ∀ x, Ok (F_retraceref17_Which_J1 x) := fun x => by unfold F_retraceref17_Which_J1; (repeat' (with_reducible first | exact OkP.rett _ | refine OkP.condN (fun _ => ?_) (fun _ => ?_) | refine OkP.condD (fun _ => ?_) (fun _ => ?_) | refine OkP.condE (fun _ => ?_) (fun _ => ?_) | refine OkP.condNE (fun _ => ?_) (fun _ => ?_) | refine OkP.condB (fun _ => ?_) (fun _ => ?_) | refine OkP.map ?_ | refine OkP.ret ?_ | refine OkP.at (by omega) (by omega) (fun _ _ => ?_) | refine OkP.sat (by omega) (by omega) (fun _ _ => ?_) | assumption))
  unfold F_retraceref17_Which; repeat' (first | exact j1 _ | (with_reducible first | exact OkP.rett _ | refine OkP.condN (fun _ => ?_) (fun _ => ?_) | refine OkP.condD (fun _ => ?_) (fun _ => ?_) | refine OkP.condE (fun _ => ?_) (fun _ => ?_) | refine OkP.condNE (fun _ => ?_) (fun _ => ?_) | refine OkP.condB (fun _ => ?_) (fun _ => ?_) | refine OkP.map ?_ | refine OkP.ret ?_ | refine OkP.at (by omega) (by omega) (fun _ _ => ?_) | refine OkP.sat (by omega) (by omega) (fun _ _ => ?_) | assumption))
theorem ok_target (p : T_api_Ins) : Ok (F_retraceref20_target p) := by
  unfold F_retraceref20_target
  refine OkP.bind (ok_Which _) fun _ _ _ => ?_
  (repeat' (with_reducible first | exact OkP.rett _ | refine OkP.condN (fun _ => ?_) (fun _ => ?_) | refine OkP.condD (fun _ => ?_) (fun _ => ?_) | refine OkP.condE (fun _ => ?_) (fun _ => ?_) | refine OkP.condNE (fun _ => ?_) (fun _ => ?_) | refine OkP.condB (fun _ => ?_) (fun _ => ?_) | refine OkP.map ?_ | refine OkP.ret ?_ | refine OkP.at (by omega) (by omega) (fun _ _ => ?_) | refine OkP.sat (by omega) (by omega) (fun _ _ => ?_) | assumption))
theorem ok_Chooses (p : Int) : Ok (F_retraceref20_Chooses p) := by
  have j1 : ∀ x, Ok (F_retraceref20_Chooses_J1 x) := fun x => by unfold F_retraceref20_Chooses_J1; (repeat' (with_reducible first | exact OkP.rett _ | refine OkP.condN (fun _ => ?_) (fun _ => ?_) | refine OkP.condD (fun _ => ?_) (fun _ => ?_) | refine OkP.condE (fun _ => ?_) (fun _ => ?_) | refine OkP.condNE (fun _ => ?_) (fun _ => ?_) | refine OkP.condB (fun _ => ?_) (fun _ => ?_) | refine OkP.map ?_ | refine OkP.ret ?_ | refine OkP.at (by omega) (by omega) (fun _ _ => ?_) | refine OkP.sat (by omega) (by omega) (fun _ _ => ?_) | assumption))
  unfold F_retraceref20_Chooses; repeat' (first | exact j1 _ | (with_reducible first | exact OkP.rett _ | refine OkP.condN (fun _ => ?_) (fun _ => ?_) | refine OkP.condD (fun _ => ?_) (fun _ => ?_) | refine OkP.condE (fun _ => ?_) (fun _ => ?_) | refine OkP.condNE (fun _ => ?_) (fun _ => ?_) | refine OkP.condB (fun _ => ?_) (fun _ => ?_) | refine OkP.map ?_ | refine OkP.ret ?_ | refine OkP.at (by omega) (by omega) (fun _ _ => ?_) | refine OkP.sat (by omega) (by omega) (fun _ _ => ?_) | assumption))
theorem ok_Acts (p : Int) : Ok (F_retraceref20_Acts p) := by
  have j1 : ∀ x, Ok (F_retraceref20_Acts_J1 x) := fun x => by unfold F_retraceref20_Acts_J1; (repeat' (with_reducible first | exact OkP.rett _ | refine OkP.condN (fun _ => ?_) (fun _ => ?_) | refine OkP.condD (fun _ => ?_) (fun _ => ?_) | refine OkP.condE (fun _ => ?_) (fun _ => ?_) | refine OkP.condNE (fun _ => ?_) (fun _ => ?_) | refine OkP.condB (fun _ => ?_) (fun _ => ?_) | refine OkP.map ?_ | refine OkP.ret ?_ | refine OkP.at (by omega) (by omega) (fun _ _ => ?_) | refine OkP.sat (by omega) (by omega) (fun _ _ => ?_) | assumption))
  unfold F_retraceref20_Acts; repeat' (first | exact j1 _ | (with_reducible first | exact OkP.rett _ | refine OkP.condN (fun _ => ?_) (fun _ => ?_) | refine OkP.condD (fun _ => ?_) (fun _ => ?_) | refine OkP.condE (fun _ => ?_) (fun _ => ?_) | refine OkP.condNE (fun _ => ?_) (fun _ => ?_) | refine OkP.condB (fun _ => ?_) (fun _ => ?_) | refine OkP.map ?_ | refine OkP.ret ?_ | refine OkP.at (by omega) (by omega) (fun _ _ => ?_) | refine OkP.sat (by omega) (by omega) (fun _ _ => ?_) | assumption))
theorem ok_Settle (c : T_api_Code) (hi : c.Ins.length ≤ 150) (p : Int) : Ok (F_retraceref20_Settle c p) := by
  unfold F_retraceref20_Settle
  refine Loop_ok (fun s : Int × Int => 0 ≤ s.2 ∧ s.2 ≤ c.Ins.length + 1) (fun s : Int × Int => (c.Ins.length + 1 - s.2).toNat) (fun s ⟨a, b⟩ => ?_) _ ⟨by simp, by show (0 : Int) ≤ _; omega⟩
  obtain ⟨u, i⟩ := s
  replace a : 0 ≤ i := a
  replace b : i ≤ c.Ins.length + 1 := b
  show OkP (F_retraceref20_Settle_L2 c p u i) _
  have j1 : ∀ x, i ≤ c.Ins.length → (x = false → 0 ≤ u ∧ u < c.Ins.length) → OkP (F_retraceref20_Settle_J1 c u i x) (Sum.elim (fun s' : Int × Int => (0 ≤ s'.2 ∧ s'.2 ≤ c.Ins.length + 1) ∧ (c.Ins.length + 1 - s'.2).toNat < (c.Ins.length + 1 - i).toNat) (fun _ => True)) := fun x hi hx => by
    unfold F_retraceref20_Settle_J1
    refine OkP.condB (fun _ => OkP.map (OkP.ret trivial)) (fun e => ?_)
    obtain ⟨p, q⟩ := hx e
    refine OkP.at p q fun y _ => OkP.ret ?_
    rw [w64i (by omega) (by omega)]
    show (0 ≤ i + 1 ∧ i + 1 ≤ _) ∧ (c.Ins.length + 1 - (i + 1)).toNat < _
    omega
  unfold F_retraceref20_Settle_L2
  refine OkP.condD (fun hv => ?_) (fun _ => OkP.map (OkP.ret trivial))
  refine OkP.condD (fun _ => j1 _ hv (fun h => by cases h)) fun h1 => ?_
  refine OkP.condD (fun _ => j1 _ hv (fun h => by cases h)) fun h2 => ?_
  exact OkP.at (by omega) (by omega) fun y _ => j1 _ hv (fun h => ⟨by omega, by omega⟩)
theorem ok_rests (c : T_api_Code) (h : CSmall c) (hg : CGood c) (d : Int) (h0 : 0 ≤ d) (h1 : d < c.Defs.length) (p : Int) : Ok (F_retraceref20_rests c d p) := by
  have j1 : ∀ x, Ok (F_retraceref20_rests_J1 x) := fun x => by unfold F_retraceref20_rests_J1; (repeat' (with_reducible first | exact OkP.rett _ | refine OkP.condN (fun _ => ?_) (fun _ => ?_) | refine OkP.condD (fun _ => ?_) (fun _ => ?_) | refine OkP.condE (fun _ => ?_) (fun _ => ?_) | refine OkP.condNE (fun _ => ?_) (fun _ => ?_) | refine OkP.condB (fun _ => ?_) (fun _ => ?_) | refine OkP.map ?_ | refine OkP.ret ?_ | refine OkP.at (by omega) (by omega) (fun _ _ => ?_) | refine OkP.sat (by omega) (by omega) (fun _ _ => ?_) | assumption))
  unfold F_retraceref20_rests
  refine OkP.bind (ok_Settle c h.ins p) fun y _ _ => OkP.at h0 h1 fun z ez => ?_
  have := hg z (lAt_mem ez)
  refine OkP.condD (fun _ => ?_) (fun _ => j1 _)
  refine OkP.bind (ok_To c h hg d h0 h1) fun t _ ht => ?_
  repeat' (first | exact j1 _ | (with_reducible first | exact OkP.rett _ | refine OkP.condN (fun _ => ?_) (fun _ => ?_) | refine OkP.condD (fun _ => ?_) (fun _ => ?_) | refine OkP.condE (fun _ => ?_) (fun _ => ?_) | refine OkP.condNE (fun _ => ?_) (fun _ => ?_) | refine OkP.condB (fun _ => ?_) (fun _ => ?_) | refine OkP.map ?_ | refine OkP.ret ?_ | refine OkP.at (by omega) (by omega) (fun _ _ => ?_) | refine OkP.sat (by omega) (by omega) (fun _ _ => ?_) | assumption))
theorem ok_may (c : T_api_Code) (h : CSmall c) (hg : CGood c) (d : Int) (h0 : 0 ≤ d) (h1 : d < c.Defs.length) (p k : Int) (hp0 : 0 ≤ p) (hp : p < c.Ins.length) :
    OkP (F_retraceref20_may c d p k) (fun b => b = true → ∀ ins t, lAt c.Ins p = some ins → F_retraceref20_target ins = some (t, true) → 0 ≤ t ∧ t < c.Ins.length) := by
  unfold F_retraceref20_may
  refine OkP.at hp0 hp fun y4 e4 => OkP.at h0 h1 fun y5 e5 => OkP.bind (ok_To c h hg d h0 h1) fun y6 e6 h6 => ?_
  have hE := hg y5 (lAt_mem e5)
  rw [e4]
  let P : Bool → Prop := fun b => b = true → ∀ ins t, some y4 = some ins → F_retraceref20_target ins = some (t, true) → 0 ≤ t ∧ t < c.Ins.length
  show OkP _ P
  have pf : P false := fun h => by cases h
  have j7 : ∀ x, Ok (F_retraceref20_may_J7 x) := fun x => by unfold F_retraceref20_may_J7; (repeat' (with_reducible first | exact OkP.rett _ | refine OkP.condN (fun _ => ?_) (fun _ => ?_) | refine OkP.condD (fun _ => ?_) (fun _ => ?_) | refine OkP.condE (fun _ => ?_) (fun _ => ?_) | refine OkP.condNE (fun _ => ?_) (fun _ => ?_) | refine OkP.condB (fun _ => ?_) (fun _ => ?_) | refine OkP.map ?_ | refine OkP.ret ?_ | refine OkP.at (by omega) (by omega) (fun _ _ => ?_) | refine OkP.sat (by omega) (by omega) (fun _ _ => ?_) | assumption))
  have j6 : Ok (F_retraceref20_may_J6 c d p y4) := by
    unfold F_retraceref20_may_J6
    refine OkP.bind (ok_Acts _) fun _ _ _ => OkP.condN (fun _ => j7 _) fun _ => ?_
    exact OkP.bind (ok_rests c h hg d h0 h1 _) fun _ _ _ => j7 _
  have j8t : OkP (F_retraceref20_may_J8 c d p y4 true) P := ⟨false, rfl, pf⟩
  have j8 : ∀ x, Ok (F_retraceref20_may_J8 c d p y4 x) := fun x => by
    unfold F_retraceref20_may_J8
    exact OkP.condB (fun _ => OkP.rett _) (fun _ => j6)
  have j5 : ∀ x, OkP (F_retraceref20_may_J5 c d p y4 y5 y6 x) P := fun x => by
    unfold F_retraceref20_may_J5
    refine OkP.condB (fun _ => ⟨false, rfl, pf⟩) (fun _ => ?_)
    refine OkP.bind (ok_target y4) fun y e _ => ?_
    refine OkP.condB (fun hy => ?_) (fun hy => j6.mono fun b _ _ _ ins t e1 e2 => ?_)
    · refine OkP.condD (fun _ => j8t) fun a1 => OkP.condD (fun _ => j8t) fun a2 => ?_
      have hP : ∀ b, P b := fun b _ ins t e1 e2 => by
        cases e1
        rw [e] at e2
        obtain rfl := Option.some.inj e2
        exact ⟨by simp at a1; omega, by simp at a2; omega⟩
      refine (?_ : Ok _).mono fun b _ _ => hP b
      have k : Ok ((F_retraceref20_Chooses y4.Op).bind fun y158 => cond y158 ((F_retraceref20_rests c d y.1).bind fun y160 => F_retraceref20_may_J8 c d p y4 (!y160)) (F_retraceref20_may_J8 c d p y4 false)) :=
        OkP.bind (ok_Chooses _) fun _ _ _ => OkP.condB (fun _ => OkP.bind (ok_rests c h hg d h0 h1 _) fun _ _ _ => j8 _) (fun _ => j8 _)
      refine OkP.condD (fun a3 => ?_) (fun _ => k)
      refine OkP.at (by omega) (by omega) fun z _ => ?_
      exact OkP.condNE (fun _ => j8 _) (fun _ => k)
    · cases e1
      rw [e] at e2
      obtain rfl := Option.some.inj e2
      cases hy
  have j4 : ∀ x, OkP (F_retraceref20_may_J4 c d p y4 y5 y6 x) P := fun x => by
    unfold F_retraceref20_may_J4
    refine OkP.condB (fun _ => ⟨false, rfl, pf⟩) (fun _ => ?_)
    repeat' (first | exact j5 _ | (with_reducible first | exact OkP.rett _ | refine OkP.condN (fun _ => ?_) (fun _ => ?_) | refine OkP.condD (fun _ => ?_) (fun _ => ?_) | refine OkP.condE (fun _ => ?_) (fun _ => ?_) | refine OkP.condNE (fun _ => ?_) (fun _ => ?_) | refine OkP.condB (fun _ => ?_) (fun _ => ?_) | refine OkP.map ?_ | refine OkP.ret ?_ | refine OkP.at (by omega) (by omega) (fun _ _ => ?_) | refine OkP.sat (by omega) (by omega) (fun _ _ => ?_) | assumption))
  have j3 : ∀ x, OkP (F_retraceref20_may_J3 c d p y4 y5 y6 x) P := fun x => by
    unfold F_retraceref20_may_J3
    repeat' (first | exact j4 _ | refine OkP.bind (ok_channel c h _ _) (fun _ _ _ => ?_) | (with_reducible first | exact OkP.rett _ | refine OkP.condN (fun _ => ?_) (fun _ => ?_) | refine OkP.condD (fun _ => ?_) (fun _ => ?_) | refine OkP.condE (fun _ => ?_) (fun _ => ?_) | refine OkP.condNE (fun _ => ?_) (fun _ => ?_) | refine OkP.condB (fun _ => ?_) (fun _ => ?_) | refine OkP.map ?_ | refine OkP.ret ?_ | refine OkP.at (by omega) (by omega) (fun _ _ => ?_) | refine OkP.sat (by omega) (by omega) (fun _ _ => ?_) | assumption))
  have j2 : ∀ x, OkP (F_retraceref20_may_J2 c d p y4 y5 y6 x) P := fun x => by
    unfold F_retraceref20_may_J2
    refine OkP.condB (fun _ => ⟨false, rfl, pf⟩) (fun _ => ?_)
    repeat' (first | exact j3 _ | (with_reducible first | exact OkP.rett _ | refine OkP.condN (fun _ => ?_) (fun _ => ?_) | refine OkP.condD (fun _ => ?_) (fun _ => ?_) | refine OkP.condE (fun _ => ?_) (fun _ => ?_) | refine OkP.condNE (fun _ => ?_) (fun _ => ?_) | refine OkP.condB (fun _ => ?_) (fun _ => ?_) | refine OkP.map ?_ | refine OkP.ret ?_ | refine OkP.at (by omega) (by omega) (fun _ _ => ?_) | refine OkP.sat (by omega) (by omega) (fun _ _ => ?_) | assumption))
  have j1 : ∀ x, OkP (F_retraceref20_may_J1 c d p k y4 y5 y6 x) P := fun x => by
    unfold F_retraceref20_may_J1
    refine OkP.condB (fun _ => ⟨false, rfl, pf⟩) (fun _ => ?_)
    repeat' (first | exact j2 _ | (with_reducible first | exact OkP.rett _ | refine OkP.condN (fun _ => ?_) (fun _ => ?_) | refine OkP.condD (fun _ => ?_) (fun _ => ?_) | refine OkP.condE (fun _ => ?_) (fun _ => ?_) | refine OkP.condNE (fun _ => ?_) (fun _ => ?_) | refine OkP.condB (fun _ => ?_) (fun _ => ?_) | refine OkP.map ?_ | refine OkP.ret ?_ | refine OkP.at (by omega) (by omega) (fun _ _ => ?_) | refine OkP.sat (by omega) (by omega) (fun _ _ => ?_) | assumption))
  refine OkP.bind (ok_IRight _) fun _ _ _ => ?_
  repeat' (first | exact j1 _ | (with_reducible first | exact OkP.rett _ | refine OkP.condN (fun _ => ?_) (fun _ => ?_) | refine OkP.condD (fun _ => ?_) (fun _ => ?_) | refine OkP.condE (fun _ => ?_) (fun _ => ?_) | refine OkP.condNE (fun _ => ?_) (fun _ => ?_) | refine OkP.condB (fun _ => ?_) (fun _ => ?_) | refine OkP.map ?_ | refine OkP.ret ?_ | refine OkP.at (by omega) (by omega) (fun _ _ => ?_) | refine OkP.sat (by omega) (by omega) (fun _ _ => ?_) | assumption))
end Go.Ab
end

section
namespace Go.Ab
set_option linter.unusedVariables false
theorem ok_Wide (p : Int) : Ok (F_retraceref15_Wide p) := by
  have j2 : ∀ x, Ok (F_retraceref15_Wide_J2 x) := fun x => by unfold F_retraceref15_Wide_J2; (repeat' (with_reducible first | exact OkP.rett _ | refine OkP.condN (fun _ => ?_) (fun _ => ?_) | refine OkP.condD (fun _ => ?_) (fun _ => ?_) | refine OkP.condE (fun _ => ?_) (fun _ => ?_) | refine OkP.condNE (fun _ => ?_) (fun _ => ?_) | refine OkP.condB (fun _ => ?_) (fun _ => ?_) | refine OkP.map ?_ | refine OkP.ret ?_ | refine OkP.at (by omega) (by omega) (fun _ _ => ?_) | refine OkP.sat (by omega) (by omega) (fun _ _ => ?_) | assumption))
  have j1 : ∀ x, Ok (F_retraceref15_Wide_J1 p x) := fun x => by unfold F_retraceref15_Wide_J1; repeat' (first | exact j2 _ | (with_reducible first | exact OkP.rett _ | refine OkP.condN (fun _ => ?_) (fun _ => ?_) | refine OkP.condD (fun _ => ?_) (fun _ => ?_) | refine OkP.condE (fun _ => ?_) (fun _ => ?_) | refine OkP.condNE (fun _ => ?_) (fun _ => ?_) | refine OkP.condB (fun _ => ?_) (fun _ => ?_) | refine OkP.map ?_ | refine OkP.ret ?_ | refine OkP.at (by omega) (by omega) (fun _ _ => ?_) | refine OkP.sat (by omega) (by omega) (fun _ _ => ?_) | assumption))
  unfold F_retraceref15_Wide; repeat' (first | exact j1 _ | (with_reducible first | exact OkP.rett _ | refine OkP.condN (fun _ => ?_) (fun _ => ?_) | refine OkP.condD (fun _ => ?_) (fun _ => ?_) | refine OkP.condE (fun _ => ?_) (fun _ => ?_) | refine OkP.condNE (fun _ => ?_) (fun _ => ?_) | refine OkP.condB (fun _ => ?_) (fun _ => ?_) | refine OkP.map ?_ | refine OkP.ret ?_ | refine OkP.at (by omega) (by omega) (fun _ _ => ?_) | refine OkP.sat (by omega) (by omega) (fun _ _ => ?_) | assumption))
theorem ok_Takes (p : T_api_Ins) : Ok (F_retraceref16_Takes p) := by
  have j1 : Ok (F_retraceref16_Takes_J1) := OkP.rett _
  have j3 : ∀ x, Ok (F_retraceref16_Takes_J3 x) := fun x => by unfold F_retraceref16_Takes_J3; repeat' (first | exact j1 | (with_reducible first | exact OkP.rett _ | refine OkP.condN (fun _ => ?_) (fun _ => ?_) | refine OkP.condD (fun _ => ?_) (fun _ => ?_) | refine OkP.condE (fun _ => ?_) (fun _ => ?_) | refine OkP.condNE (fun _ => ?_) (fun _ => ?_) | refine OkP.condB (fun _ => ?_) (fun _ => ?_) | refine OkP.map ?_ | refine OkP.ret ?_ | refine OkP.at (by omega) (by omega) (fun _ _ => ?_) | refine OkP.sat (by omega) (by omega) (fun _ _ => ?_) | assumption))
  have j2 : ∀ x, Ok (F_retraceref16_Takes_J2 p x) := fun x => by unfold F_retraceref16_Takes_J2; repeat' (first | exact j3 _ | (with_reducible first | exact OkP.rett _ | refine OkP.condN (fun _ => ?_) (fun _ => ?_) | refine OkP.condD (fun _ => ?_) (fun _ => ?_) | refine OkP.condE (fun _ => ?_) (fun _ => ?_) | refine OkP.condNE (fun _ => ?_) (fun _ => ?_) | refine OkP.condB (fun _ => ?_) (fun _ => ?_) | refine OkP.map ?_ | refine OkP.ret ?_ | refine OkP.at (by omega) (by omega) (fun _ _ => ?_) | refine OkP.sat (by omega) (by omega) (fun _ _ => ?_) | assumption))
  unfold F_retraceref16_Takes
  refine OkP.bind (ok_IRight _) fun _ _ _ => ?_
  repeat' (first | exact j1 | exact j2 _ | refine OkP.bind (ok_Wide _) (fun _ _ _ => ?_) | (with_reducible first | exact OkP.rett _ | refine OkP.condN (fun _ => ?_) (fun _ => ?_) | refine OkP.condD (fun _ => ?_) (fun _ => ?_) | refine OkP.condE (fun _ => ?_) (fun _ => ?_) | refine OkP.condNE (fun _ => ?_) (fun _ => ?_) | refine OkP.condB (fun _ => ?_) (fun _ => ?_) | refine OkP.map ?_ | refine OkP.ret ?_ | refine OkP.at (by omega) (by omega) (fun _ _ => ?_) | refine OkP.sat (by omega) (by omega) (fun _ _ => ?_) | assumption))
theorem ok_fits (p : T_api_Ins) (q : T_retraceref20_Is) : Ok (F_retraceref20_fits p q) := by
  have j2 : ∀ x, Ok (F_retraceref20_fits_J2 x) := fun x => OkP.rett _
  have j3 : ∀ x, Ok (F_retraceref20_fits_J3 x) := fun x => OkP.rett _
  have j4 : ∀ x, Ok (F_retraceref20_fits_J4 x) := fun x => OkP.rett _
  have j6 : ∀ x, Ok (F_retraceref20_fits_J6 x) := fun x => OkP.rett _
  have j5 : ∀ y x, Ok (F_retraceref20_fits_J5 q y x) := fun y x => by unfold F_retraceref20_fits_J5; repeat' (first | exact j6 _ | (with_reducible first | exact OkP.rett _ | refine OkP.condN (fun _ => ?_) (fun _ => ?_) | refine OkP.condD (fun _ => ?_) (fun _ => ?_) | refine OkP.condE (fun _ => ?_) (fun _ => ?_) | refine OkP.condNE (fun _ => ?_) (fun _ => ?_) | refine OkP.condB (fun _ => ?_) (fun _ => ?_) | refine OkP.map ?_ | refine OkP.ret ?_ | refine OkP.at (by omega) (by omega) (fun _ _ => ?_) | refine OkP.sat (by omega) (by omega) (fun _ _ => ?_) | assumption))
  have j1 : ∀ y x, Ok (F_retraceref20_fits_J1 p q y x) := fun y x => by
    unfold F_retraceref20_fits_J1
    repeat' (first | exact j2 _ | exact j3 _ | exact j4 _ | exact j5 _ _ | refine OkP.bind (ok_Chooses _) (fun _ _ _ => ?_) | refine OkP.bind (ok_Acts _) (fun _ _ _ => ?_) | (with_reducible first | exact OkP.rett _ | refine OkP.condN (fun _ => ?_) (fun _ => ?_) | refine OkP.condD (fun _ => ?_) (fun _ => ?_) | refine OkP.condE (fun _ => ?_) (fun _ => ?_) | refine OkP.condNE (fun _ => ?_) (fun _ => ?_) | refine OkP.condB (fun _ => ?_) (fun _ => ?_) | refine OkP.map ?_ | refine OkP.ret ?_ | refine OkP.at (by omega) (by omega) (fun _ _ => ?_) | refine OkP.sat (by omega) (by omega) (fun _ _ => ?_) | assumption))
  unfold F_retraceref20_fits
  refine OkP.bind (ok_Takes _) fun _ _ _ => ?_
  repeat' (first | exact j1 _ _ | (with_reducible first | exact OkP.rett _ | refine OkP.condN (fun _ => ?_) (fun _ => ?_) | refine OkP.condD (fun _ => ?_) (fun _ => ?_) | refine OkP.condE (fun _ => ?_) (fun _ => ?_) | refine OkP.condNE (fun _ => ?_) (fun _ => ?_) | refine OkP.condB (fun _ => ?_) (fun _ => ?_) | refine OkP.map ?_ | refine OkP.ret ?_ | refine OkP.at (by omega) (by omega) (fun _ _ => ?_) | refine OkP.sat (by omega) (by omega) (fun _ _ => ?_) | assumption))
theorem ok_Gives (p : T_api_Ins) : Ok (F_retraceref16_Gives p) := by
  have j1 : ∀ x, Ok (F_retraceref16_Gives_J1 x) := fun x => by unfold F_retraceref16_Gives_J1; (repeat' (with_reducible first | exact OkP.rett _ | refine OkP.condN (fun _ => ?_) (fun _ => ?_) | refine OkP.condD (fun _ => ?_) (fun _ => ?_) | refine OkP.condE (fun _ => ?_) (fun _ => ?_) | refine OkP.condNE (fun _ => ?_) (fun _ => ?_) | refine OkP.condB (fun _ => ?_) (fun _ => ?_) | refine OkP.map ?_ | refine OkP.ret ?_ | refine OkP.at (by omega) (by omega) (fun _ _ => ?_) | refine OkP.sat (by omega) (by omega) (fun _ _ => ?_) | assumption))
  unfold F_retraceref16_Gives
  refine OkP.bind (ok_IRight _) fun _ _ _ => ?_
  repeat' (first | exact j1 _ | (with_reducible first | exact OkP.rett _ | refine OkP.condN (fun _ => ?_) (fun _ => ?_) | refine OkP.condD (fun _ => ?_) (fun _ => ?_) | refine OkP.condE (fun _ => ?_) (fun _ => ?_) | refine OkP.condNE (fun _ => ?_) (fun _ => ?_) | refine OkP.condB (fun _ => ?_) (fun _ => ?_) | refine OkP.map ?_ | refine OkP.ret ?_ | refine OkP.at (by omega) (by omega) (fun _ _ => ?_) | refine OkP.sat (by omega) (by omega) (fun _ _ => ?_) | assumption))
end Go.Ab
end

section
namespace Go.Ab
set_option linter.unusedVariables false
/-- a loop that seeks the first place where p holds -/
theorem Loop_find {α R : Type} (l : List α) (hl : l.length < 9223372036854775808) (p : α → Bool) (found : Nat → R) (no : R) {step : Int → Option (Int ⊕ R)}
    (h1 : ∀ k (h : k < l.length), step (k : Int) = if p l[k] = true then some (.inr (found k)) else some (.inl (w64 (k + 1)))) (h2 : step (l.length : Int) = some (.inr no)) :
    Loop step 0 = some (match l.findIdx? p with | some k => found k | none => no) := by
  cases e : l.findIdx? p with
  | none =>
    rw [List.findIdx?_eq_none_iff] at e
    refine Loop_nat (fun k => (k : Int)) l.length (fun k hk => ?_) h2
    rw [h1 k hk, if_neg (by rw [e _ (List.getElem_mem hk)]; decide), w64i (by omega) (by omega)]
    rfl
  | some n =>
    rw [List.findIdx?_eq_some_iff_getElem] at e
    obtain ⟨hn, e1, e2⟩ := e
    refine Loop_nat (fun k => (k : Int)) n (fun k hk => ?_) ?_
    · rw [h1 k (by omega), if_neg (by simpa using e2 k hk), w64i (by omega) (by omega)]
      rfl
    · rw [h1 n hn, if_pos e1]
end Go.Ab
end

section
/- Places of code, plainly. -/
namespace Go.Ab
set_option linter.unusedVariables false
def routine (c : T_api_Code) (a : Int) : Int := if 0 ≤ a ∧ a < c.Ins.length then c.Defs.zipIdx.foldl (fun s x => if x.1.Entry ≤ a then (x.2 : Int) else s) (-1) else -1
theorem routine_eq (c : T_api_Code) (hd : c.Defs.length ≤ 40) (a : Int) : F_retraceref20_Routine c a = some (routine c a) := by
  unfold F_retraceref20_Routine routine
  by_cases h : 0 ≤ a ∧ a < c.Ins.length
  · rw [if_pos h]
    refine Loop_fold c.Defs.zipIdx (by rw [List.length_zipIdx]; omega) (fun s x => if x.1.Entry ≤ a then (x.2 : Int) else s) id (fun s i => (s, i)) (fun _ _ => True) (fun k hk s _ => ?_) (fun _ _ _ _ => trivial) (fun s _ => ?_) (-1) trivial
    · rw [List.length_zipIdx] at hk
      show F_retraceref20_Routine_L3 c a s (k : Int) = _
      unfold F_retraceref20_Routine_L3 F_retraceref20_Routine_J1 F_retraceref20_Routine_J2
      rw [dct (by omega), dct h.1, dct h.2, lAt_lt hk]
      simp only [cond_true, Option.bind_some, List.getElem_zipIdx, Nat.zero_add]
      by_cases e : c.Defs[k].Entry ≤ a
      · rw [dct e, if_pos e]; rfl
      · rw [dcf e, if_neg e]; rfl
    · show F_retraceref20_Routine_L3 c a s ((c.Defs.zipIdx).length : Int) = _
      unfold F_retraceref20_Routine_L3 F_retraceref20_Routine_J1
      rw [List.length_zipIdx, dcf (by omega)]; rfl
  · rw [if_neg h]
    refine Loop_inr ?_
    show F_retraceref20_Routine_L3 c a (-1) 0 = _
    unfold F_retraceref20_Routine_L3 F_retraceref20_Routine_J1
    by_cases h0 : (0 : Int) ≤ a
    · rw [dct h0, dcf (show ¬ a < (c.Ins.length : Int) by omega)]
      cases decide ((0 : Int) < (c.Defs.length : Int)) <;> rfl
    · rw [dcf h0]
      cases decide ((0 : Int) < (c.Defs.length : Int)) <;> rfl
theorem routine_rng {c : T_api_Code} {a : Int} (h : 0 ≤ routine c a) : 0 ≤ a ∧ a < c.Ins.length := by
  unfold routine at h
  split at h
  · assumption
  · omega
theorem settle_eq (c : T_api_Code) (hi : c.Ins.length ≤ 150) (a : Int) : F_code_Settle c a = F_retraceref20_Settle c a := by
  unfold F_code_Settle F_retraceref20_Settle
  congr 1
  funext s
  unfold F_code_Settle_L2 F_retraceref20_Settle_L2
  rw [w64i (by omega) (by omega)]
  have : decide (s.2 < (c.Ins.length : Int) + 1) = decide (s.2 ≤ (c.Ins.length : Int)) := by
    by_cases e : s.2 ≤ (c.Ins.length : Int)
    · rw [dct e, dct (by omega)]
    · rw [dcf e, dcf (by omega)]
  rw [this]
  rfl
/-- The routine of a place, from behind. -/
def back (c : T_api_Code) (a : Int) : Nat → Int
  | 0 => -1
  | k + 1 => match c.Defs[k]? with | some d => if d.Entry ≤ a then (k : Int) else back c a k | none => -1
theorem back_fold (c : T_api_Code) (a : Int) : ∀ k, k ≤ c.Defs.length → (c.Defs.zipIdx.take k).foldl (fun s x => if x.1.Entry ≤ a then (x.2 : Int) else s) (-1) = back c a k
  | 0, _ => rfl
  | k + 1, h => by
    have hz : k < c.Defs.zipIdx.length := by rw [List.length_zipIdx]; omega
    rw [List.take_succ_eq_append_getElem hz, List.foldl_append, back_fold c a k (by omega)]
    simp only [List.foldl_cons, List.foldl_nil, List.getElem_zipIdx, Nat.zero_add, back]
    rw [List.getElem?_eq_getElem (by omega)]
theorem stmt_eq (c : T_api_Code) (a : Int) : F_code_Stmt c a = F_retraceref20_Stmt c a := by
  unfold F_code_Stmt F_retraceref20_Stmt F_code_Stmt_J1 F_retraceref20_Stmt_J1
  by_cases h0 : a < 0
  · rw [dct h0, dcf (show ¬ 0 ≤ a by omega)]; rfl
  · rw [dcf h0, dct (show 0 ≤ a by omega)]
    by_cases h1 : (c.Ins.length : Int) ≤ a
    · rw [dct h1, dcf (show ¬ a < (c.Ins.length : Int) by omega)]; rfl
    · rw [dcf h1, dct (show a < (c.Ins.length : Int) by omega)]
      obtain ⟨y, ey, _⟩ := lAt_ok (l := c.Ins) (i := a) (by omega) (by omega)
      simp only [cond_false, cond_true, ey, Option.bind_some, bne]
      cases y.Op == 1 <;> rfl
end Go.Ab
end

section
/- Single instructions: what the program says of them, and what the reference says. -/
namespace Go.Ab
set_option linter.unusedVariables false
set_option maxRecDepth 10000
theorem opc (n : Int) : (n < 1 ∨ 25 < n) ∨ n = 1 ∨ n = 2 ∨ n = 3 ∨ n = 4 ∨ n = 5 ∨ n = 6 ∨ n = 7 ∨ n = 8 ∨ n = 9 ∨ n = 10 ∨ n = 11 ∨ n = 12 ∨ n = 13 ∨ n = 14 ∨ n = 15 ∨ n = 16 ∨ n = 17 ∨ n = 18 ∨ n = 19 ∨ n = 20 ∨ n = 21 ∨ n = 22 ∨ n = 23 ∨ n = 24 ∨ n = 25 := by omega
theorem opo {n : Int} (h : n < 1 ∨ 25 < n) (k : Int) (h1 : 1 ≤ k) (h2 : k ≤ 25) : (n == k) = false := beqf (by omega)
theorem acts_eq (p : Int) : F_code_acts p = F_retraceref20_Acts p := by
  rcases opc p with h | rfl | rfl | rfl | rfl | rfl | rfl | rfl | rfl | rfl | rfl | rfl | rfl | rfl | rfl | rfl | rfl | rfl | rfl | rfl | rfl | rfl | rfl | rfl | rfl | rfl
  · unfold F_code_acts F_retraceref20_Acts F_code_acts_J1 F_retraceref20_Acts_J1
    simp only [opo h 4 (by decide) (by decide), opo h 10 (by decide) (by decide), opo h 11 (by decide) (by decide), opo h 12 (by decide) (by decide), opo h 13 (by decide) (by decide), opo h 14 (by decide) (by decide), opo h 15 (by decide) (by decide), opo h 16 (by decide) (by decide), opo h 17 (by decide) (by decide), cond_false]
    by_cases h2 : 12 ≤ p
    · rw [dct h2, dcf (show ¬ p ≤ 17 by omega)]; rfl
    · rw [dcf h2]; rfl
  all_goals rfl
theorem chooses_eq (p : Int) : F_code_chooses p = F_retraceref20_Chooses p := by
  rcases opc p with h | rfl | rfl | rfl | rfl | rfl | rfl | rfl | rfl | rfl | rfl | rfl | rfl | rfl | rfl | rfl | rfl | rfl | rfl | rfl | rfl | rfl | rfl | rfl | rfl | rfl
  · unfold F_code_chooses F_retraceref20_Chooses F_code_chooses_J1 F_retraceref20_Chooses_J1
    simp only [opo h 19 (by decide) (by decide), opo h 20 (by decide) (by decide), opo h 21 (by decide) (by decide), opo h 22 (by decide) (by decide), cond_false]
    by_cases h2 : 19 ≤ p
    · rw [dct h2, dcf (show ¬ p ≤ 22 by omega)]; rfl
    · rw [dcf h2]; rfl
  all_goals rfl
theorem target_eq (p : T_api_Ins) : F_patch_Target p = F_retraceref20_target p := by
  obtain ⟨op, a, b⟩ := p
  rcases opc op with h | rfl | rfl | rfl | rfl | rfl | rfl | rfl | rfl | rfl | rfl | rfl | rfl | rfl | rfl | rfl | rfl | rfl | rfl | rfl | rfl | rfl | rfl | rfl | rfl | rfl
  · unfold F_patch_Target F_retraceref20_target F_patch_Target_J1 F_retraceref17_Which F_retraceref17_Which_J1
    simp only [opo h 6 (by decide) (by decide), opo h 7 (by decide) (by decide), opo h 8 (by decide) (by decide), opo h 19 (by decide) (by decide), opo h 20 (by decide) (by decide), opo h 21 (by decide) (by decide), opo h 22 (by decide) (by decide), cond_false]
    rfl
  all_goals rfl
theorem find_out {op : Int} (h : op < 1 ∨ 25 < op) : F_ins_find op = some ((⟨(⟨#[]⟩ : ByteArray), 0, 0, 0⟩ : T_ins_row), false) := by
  unfold F_ins_find F_ins_find_J1
  by_cases h1 : op < 1
  · rw [dct h1]; rfl
  · rw [dcf h1, dct (show 25 < op by omega)]; rfl
def wideN (a : Int) : Int := if a = 3 ∨ a = 4 then 1 else if 5 ≤ a ∧ a ≤ 17 then 2 else 0
theorem wide_eq (a : Int) : F_arith_Wide a = some (wideN a) := by
  unfold F_arith_Wide F_arith_Wide_J1 F_arith_Wide_J2 wideN
  by_cases h3 : a = 3
  · subst h3; rfl
  by_cases h4 : a = 4
  · subst h4; rfl
  rw [beqf h3, beqf h4, if_neg (by omega)]
  by_cases h5 : 5 ≤ a
  · rw [dct h5]
    by_cases h6 : a ≤ 17
    · rw [dct h6, if_pos ⟨h5, h6⟩]; rfl
    · rw [dcf h6, if_neg (by omega)]; rfl
  · rw [dcf h5, if_neg (by omega)]; rfl
theorem rwide_eq (a : Int) : F_retraceref15_Wide a = some (wideN a) := wide_eq a
theorem right_eq (p : T_api_Ins) : F_ins_Right p = F_retraceref16_Right p := by
  obtain ⟨op, a, b⟩ := p
  rcases opc op with h | rfl | rfl | rfl | rfl | rfl | rfl | rfl | rfl | rfl | rfl | rfl | rfl | rfl | rfl | rfl | rfl | rfl | rfl | rfl | rfl | rfl | rfl | rfl | rfl | rfl
  · unfold F_ins_Right
    rw [find_out h]
    show some false = _
    obtain ⟨n, hn, _⟩ := ok_Nums op
    unfold F_retraceref16_Right
    rw [hn]
    simp only [Option.bind_some]
    by_cases h1 : op < 1
    · rw [dct h1]; rfl
    · rw [dcf h1, dct (show 25 < op by omega)]; rfl
  case inr.inr.inr.inr.inr.inl =>
    show cond (b != 0) (some false) ((F_arith_Wide a).bind fun y => some (decide (0 < y))) = cond (b != 0) (some false) (cond (decide (a < 3)) (some false) (cond (decide (17 < a)) (some false) (some true)))
    rw [wide_eq]
    unfold wideN
    cases b != 0
    · simp only [cond_false, Option.bind_some]
      by_cases h1 : a < 3
      · rw [dct h1, if_neg (by omega), if_neg (by omega)]; rfl
      · rw [dcf h1]
        by_cases h2 : 17 < a
        · rw [dct h2, if_neg (by omega), if_neg (by omega)]; rfl
        · rw [dcf h2]
          by_cases h3 : a = 3 ∨ a = 4
          · rw [if_pos h3]; rfl
          · rw [if_neg h3, if_pos (by omega)]; rfl
    · rfl
  case inr.inr.inr.inr.inr.inr.inr.inr.inr.inr.inr.inr.inr.inr.inl =>
    show cond (decide (0 ≤ b)) (some true) (some false) = cond (decide (b < 0)) (some false) (some true)
    by_cases h : 0 ≤ b
    · rw [dct h, dcf (show ¬ b < 0 by omega)]; rfl
    · rw [dcf h, dct (show b < 0 by omega)]; rfl
  all_goals rfl
theorem takes_eq (p : T_api_Ins) : F_ins_Takes p = F_retraceref16_Takes p := by
  obtain ⟨r, hr, _⟩ := ok_IRight p
  unfold F_ins_Takes F_retraceref16_Takes
  rw [right_eq, hr]
  obtain ⟨op, a, b⟩ := p
  rcases opc op with h | rfl | rfl | rfl | rfl | rfl | rfl | rfl | rfl | rfl | rfl | rfl | rfl | rfl | rfl | rfl | rfl | rfl | rfl | rfl | rfl | rfl | rfl | rfl | rfl | rfl
  · have : F_retraceref16_Right ⟨op, a, b⟩ = some false := by
      rw [← right_eq]
      unfold F_ins_Right
      rw [find_out h]; rfl
    rw [this] at hr
    cases hr
    rw [find_out h]; rfl
  all_goals first
    | (cases r <;> rfl; done)
    | (cases r
       · rfl
       · show (F_arith_Wide a).bind _ = (F_retraceref15_Wide a).bind _
         rw [wide_eq, rwide_eq])
theorem gives_eq (p : T_api_Ins) : F_ins_Gives p = F_retraceref16_Gives p := by
  obtain ⟨r, hr, _⟩ := ok_IRight p
  unfold F_ins_Gives F_retraceref16_Gives
  rw [right_eq, hr]
  obtain ⟨op, a, b⟩ := p
  rcases opc op with h | rfl | rfl | rfl | rfl | rfl | rfl | rfl | rfl | rfl | rfl | rfl | rfl | rfl | rfl | rfl | rfl | rfl | rfl | rfl | rfl | rfl | rfl | rfl | rfl | rfl
  · have : F_retraceref16_Right ⟨op, a, b⟩ = some false := by
      rw [← right_eq]
      unfold F_ins_Right
      rw [find_out h]; rfl
    rw [this] at hr
    cases hr
    rw [find_out h]; rfl
  all_goals (cases r <;> rfl)
/-- What is had of something that answers. -/
theorem some_of {α : Type} {x : Option α} (h : Ok x) (d : α) : x = some (x.getD d) := by
  obtain ⟨a, e, _⟩ := h; rw [e]; rfl
noncomputable def actsB (p : Int) : Bool := (F_retraceref20_Acts p).getD false
noncomputable def chosB (p : Int) : Bool := (F_retraceref20_Chooses p).getD false
noncomputable def tgt (p : T_api_Ins) : Int × Bool := (F_retraceref20_target p).getD (0, false)
noncomputable def takN (p : T_api_Ins) : Int := (F_retraceref16_Takes p).getD 0
noncomputable def givN (p : T_api_Ins) : Int := (F_retraceref16_Gives p).getD 0
theorem acts_s (p : Int) : F_retraceref20_Acts p = some (actsB p) := some_of (ok_Acts p) _
theorem chos_s (p : Int) : F_retraceref20_Chooses p = some (chosB p) := some_of (ok_Chooses p) _
theorem tgt_s (p : T_api_Ins) : F_retraceref20_target p = some (tgt p) := some_of (ok_target p) _
theorem tak_s (p : T_api_Ins) : F_retraceref16_Takes p = some (takN p) := some_of (ok_Takes p) _
theorem giv_s (p : T_api_Ins) : F_retraceref16_Gives p = some (givN p) := some_of (ok_Gives p) _
/-- What fits, and what is there behind it. -/
noncomputable def fitB (x : T_api_Ins) (n : Int) (ch : Bool) : Bool := (F_retraceref20_fits x ⟨true, n, ch⟩).getD false
theorem fit_s (x : T_api_Ins) (n : Int) (ch b : Bool) : F_retraceref20_fits x ⟨b, n, ch⟩ = some (fitB x n ch) := some_of (ok_fits x ⟨true, n, ch⟩) _
end Go.Ab
end

section
/- What fits, what rests, what may be: the program says what the reference says. -/
namespace Go.Ab
set_option linter.unusedVariables false
set_option maxRecDepth 10000
theorem tak0 (x : T_api_Ins) (h : x.Op = 1 ∨ x.Op = 23 ∨ x.Op = 24 ∨ x.Op = 25) : takN x = 0 := by
  obtain ⟨r, hr, _⟩ := ok_IRight x
  unfold takN F_retraceref16_Takes
  rw [hr]
  obtain ⟨op, a, b⟩ := x
  rcases h with h | h | h | h <;> (replace h : op = _ := h; subst h; cases r <;> rfl)
theorem fits_eq (x : T_api_Ins) (t : T_code_there) : ∃ nx, F_code_fits x t = some (nx, fitB x t.n t.choose) ∧ (fitB x t.n t.choose = true → nx = ⟨w64 (w64 (t.n - takN x) + givN x), t.choose || (x.Op == 25)⟩) := by
  obtain ⟨n, ch⟩ := t
  have hf := fit_s x n ch true
  generalize fitB x n ch = f at hf
  unfold F_retraceref20_fits F_retraceref20_fits_J1 F_retraceref20_fits_J2 F_retraceref20_fits_J3 F_retraceref20_fits_J4 F_retraceref20_fits_J5 F_retraceref20_fits_J6 at hf
  unfold F_code_fits F_code_fits_J2 F_code_fits_J3 F_code_fits_J1
  rw [takes_eq, tak_s, gives_eq, giv_s, chooses_eq, chos_s, acts_eq, acts_s]
  rw [tak_s, chos_s, acts_s] at hf
  simp only [Option.bind_some] at hf ⊢
  by_cases h1 : x.Op = 1 ∨ x.Op = 24 ∨ x.Op = 25
  · have e0 : takN x = 0 := tak0 x (by omega)
    have key : (cond (decide (w64 (n - takN x) < 0)) (some false) (cond (n == 0) (some (!ch)) (some false))) = some f := by
      rcases h1 with h | h | h <;> rw [h] at hf <;> exact hf
    refine ⟨⟨w64 (w64 (n - takN x) + givN x), x.Op == 25⟩, ?_, ?_⟩
    · have : f = ((n == 0) && ((ch == false) && true)) := by
        by_cases hn : n = 0
        · subst hn
          rw [e0] at key
          have := Option.some.inj key
          rw [← this]
          cases ch <;> rfl
        · rw [beqf hn] at key ⊢
          by_cases hw : w64 (n - takN x) < 0
          · rw [dct hw] at key; exact (Option.some.inj key).symm
          · rw [dcf hw] at key; exact (Option.some.inj key).symm
      rw [this]
      rcases h1 with h | h | h <;> rw [h] <;> rfl
    · intro hft
      subst hft
      have hch : ch = false := by
        by_cases hw : w64 (n - takN x) < 0
        · rw [dct hw] at key; cases key
        · rw [dcf hw, cond_false] at key
          cases hn : n == 0
          · rw [hn] at key; cases key
          · rw [hn] at key
            have := Option.some.inj key
            simpa using this
      rw [hch]; rfl
  · have n1 : (x.Op == 1) = false := beqf (by omega)
    have n2 : (x.Op == 24) = false := beqf (by omega)
    have n3 : (x.Op == 25) = false := beqf (by omega)
    rw [n1, n2, n3] at hf ⊢
    simp only [cond_false, Bool.or_false] at hf ⊢
    refine ⟨⟨w64 (w64 (n - takN x) + givN x), ch⟩, ?_, fun _ => rfl⟩
    by_cases h2 : x.Op = 23
    · have e0 : takN x = 0 := tak0 x (by omega)
      rw [beqt h2] at hf ⊢
      simp only [cond_true] at hf ⊢
      congr 2
      by_cases hn : n = 0
      · subst hn
        rw [e0, dcf (show ¬ w64 (0 - 0) < 0 by decide)] at hf
        have := Option.some.inj hf
        rw [← this]
        cases ch <;> rfl
      · rw [beqf hn] at hf ⊢
        by_cases hw : w64 (n - takN x) < 0
        · rw [dct hw] at hf; exact Option.some.inj hf
        · rw [dcf hw] at hf; exact Option.some.inj hf
    · rw [beqf h2] at hf ⊢
      simp only [cond_false] at hf ⊢
      by_cases hw : w64 (n - takN x) < 0
      · rw [dct hw] at hf
        have hf := Option.some.inj hf
        subst hf
        have hz : (w64 (n - takN x) == 0) = false := beqf (by omega)
        rw [hz, dcf (show ¬ 0 ≤ w64 (n - takN x) by omega)]
        cases chosB x.Op <;> cases actsB x.Op <;> cases x.Op == 18 <;> rfl
      · rw [dcf hw] at hf
        rw [dct (show 0 ≤ w64 (n - takN x) by omega)]
        simp only [cond_false] at hf
        revert hf
        cases chosB x.Op <;> cases actsB x.Op <;> cases x.Op == 18 <;> cases (w64 (n - takN x) == 0) <;> cases ch <;> (intro hf; cases hf; rfl)
end Go.Ab
end

section
/- What may be, of single places. -/
namespace Go.Ab
set_option linter.unusedVariables false
set_option maxRecDepth 10000
theorem crout (c : T_api_Code) (r m f t v T : Int) (d : T_api_Def) (hd : lAt c.Defs r = some d) (hT : F_retraceref20_To c r = some T) : F_code_checker_routine r ⟨c, m, f, t, v⟩ = some ⟨c, m, d.Entry, T, d.Vars⟩ := by
  unfold F_retraceref20_To at hT
  unfold F_code_checker_routine
  simp only [hd, Option.bind_some]
  cases hq : decide (w64 (r + 1) < (c.Defs.length : Int)) with
  | true =>
    rw [hq] at hT
    cases hl : lAt c.Defs (w64 (r + 1)) with
    | none => rw [hl] at hT; cases hT
    | some y => rw [hl] at hT; have := Option.some.inj hT; rw [← this]; rfl
  | false => rw [hq] at hT; have := Option.some.inj hT; rw [← this]; rfl
theorem rests_eq (c : T_api_Code) (hi : c.Ins.length ≤ 150) (r a m T V : Int) (d : T_api_Def) (hd : lAt c.Defs r = some d) (hT : F_retraceref20_To c r = some T) : F_code_checker_rests a ⟨c, m, d.Entry, T, V⟩ = F_retraceref20_rests c r a := by
  unfold F_code_checker_rests F_retraceref20_rests
  rw [settle_eq c hi]
  simp only [hd, hT, Option.bind_some]
  rfl
theorem chan_eq (c : T_api_Code) (hc : c.Chans.length ≤ 80) (x : T_api_Ins) : F_slices_ContainsFunc_retrace_api_Chan_retrace_api_Chan c.Chans x = F_retraceref20_channel c x.A x.B := by
  have e1 : F_slices_IndexFunc_retrace_api_Chan_retrace_api_Chan c.Chans x = some (match c.Chans.findIdx? (fun d => (d.Base == x.A) && (d.Size == x.B)) with | some k => (k : Int) | none => -1) := by
    unfold F_slices_IndexFunc_retrace_api_Chan_retrace_api_Chan
    refine Loop_find (R := Int) c.Chans (by omega) (fun d => (d.Base == x.A) && (d.Size == x.B)) (fun k => (k : Int)) (-1) (fun k hk => ?_) ?_
    · unfold F_slices_IndexFunc_retrace_api_Chan_retrace_api_Chan_L1 F_code_checker_may_1 F_code_checker_may_1_J1
      rw [dct (by omega), lAt_lt hk]
      simp only [cond_true, Option.bind_some]
      cases (c.Chans[k].Base == x.A) <;> cases (c.Chans[k].Size == x.B) <;> rfl
    · unfold F_slices_IndexFunc_retrace_api_Chan_retrace_api_Chan_L1
      rw [dcf (by omega)]; rfl
  have e2 : F_retraceref20_channel c x.A x.B = some (match c.Chans.findIdx? (fun d => (d.Base == x.A) && (d.Size == x.B)) with | some k => true | none => false) := by
    unfold F_retraceref20_channel
    refine Loop_find (R := Bool) c.Chans (by omega) (fun d => (d.Base == x.A) && (d.Size == x.B)) (fun k => true) false (fun k hk => ?_) ?_
    · unfold F_retraceref20_channel_L2 F_retraceref20_channel_J1
      rw [dct (by omega), lAt_lt hk]
      simp only [cond_true, Option.bind_some]
      cases (c.Chans[k].Base == x.A) <;> cases (c.Chans[k].Size == x.B) <;> rfl
    · unfold F_retraceref20_channel_L2
      rw [dcf (by omega)]; rfl
  unfold F_slices_ContainsFunc_retrace_api_Chan_retrace_api_Chan
  rw [e1, e2]
  simp only [Option.bind_some]
  cases c.Chans.findIdx? (fun d => (d.Base == x.A) && (d.Size == x.B)) with
  | none => rfl
  | some k => show some (decide (0 ≤ (k : Int))) = some true; rw [dct (by omega)]
theorem cho_tgt (x : T_api_Ins) (h : chosB x.Op = true) : (tgt x).2 = true := by
  obtain ⟨op, a, b⟩ := x
  replace h : chosB op = true := h
  rcases opc op with h1 | rfl | rfl | rfl | rfl | rfl | rfl | rfl | rfl | rfl | rfl | rfl | rfl | rfl | rfl | rfl | rfl | rfl | rfl | rfl | rfl | rfl | rfl | rfl | rfl | rfl
  · unfold chosB F_retraceref20_Chooses F_retraceref20_Chooses_J1 at h
    by_cases h2 : 19 ≤ op
    · rw [dct h2, dcf (show ¬ op ≤ 22 by omega)] at h; cases h
    · rw [dcf h2] at h; cases h
  all_goals first | (cases h; done) | rfl
/-- What is asked of a target, and of where one rests. -/
noncomputable def tailB (c : T_api_Code) (r p T : Int) (d : T_api_Def) (x : T_api_Ins) : Bool :=
  (!(tgt x).2 || (decide (d.Entry ≤ (tgt x).1) && (decide ((tgt x).1 < T) && (decide (p < (tgt x).1) || match lAt c.Ins (tgt x).1 with | some z => z.Op == 1 | none => false)))) &&
  ((!actsB x.Op || (F_retraceref20_rests c r (w64 (p + 1))).getD false) && (!chosB x.Op || (F_retraceref20_rests c r (tgt x).1).getD false))
theorem tail_c (c : T_api_Code) (h : CSmall c) (hg : CGood c) (r p m T : Int) (d : T_api_Def) (hd : lAt c.Defs r = some d) (hT : F_retraceref20_To c r = some T) (x : T_api_Ins) (b : Bool) :
    F_code_checker_may_J2 p ⟨c, m, d.Entry, T, d.Vars⟩ x b = some (b && tailB c r p T d x) := by
  obtain ⟨hr0, hr1⟩ := lAt_rng hd
  have hE := hg d (lAt_mem hd)
  obtain ⟨T', hT', hTl⟩ := ok_To c h hg r hr0 hr1
  rw [hT] at hT'; cases hT'
  obtain ⟨s1, hs1, _⟩ := ok_rests c h hg r hr0 hr1 (w64 (p + 1))
  obtain ⟨s2, hs2, _⟩ := ok_rests c h hg r hr0 hr1 (tgt x).1
  have j3 : ∀ q, F_code_checker_may_J3 p ⟨c, m, d.Entry, T, d.Vars⟩ x (tgt x) q = some (!q && ((!actsB x.Op || s1) && (!chosB x.Op || s2))) := fun q => by
    unfold F_code_checker_may_J3 F_code_checker_may_J4
    simp only [acts_eq, acts_s, chooses_eq, chos_s, rests_eq c h.ins r _ m T d.Vars d hd hT, hs1, hs2, Option.bind_some, Option.getD_some]
    cases q <;> cases actsB x.Op <;> cases chosB x.Op <;> first | rfl | (cases s1 <;> rfl)
  unfold F_code_checker_may_J2 F_code_checker_aimed F_code_checker_aimed_J1 tailB
  simp only [target_eq, tgt_s, Option.bind_some, j3, hs1, hs2, Option.getD_some]
  cases b
  · rfl
  · cases ht : (tgt x).2 with
    | false => simp
    | true =>
      by_cases h1 : d.Entry ≤ (tgt x).1
      · by_cases h2 : (tgt x).1 < T
        · obtain ⟨z, hz, _⟩ := lAt_ok (l := c.Ins) (i := (tgt x).1) (by omega) (by omega)
          rw [dct h1, dct h2, hz]
          by_cases h3 : p < (tgt x).1
          · rw [dct h3]; simp
          · rw [dcf h3]; simp
        · rw [dct h1, dcf h2]; simp
      · rw [dcf h1]; simp
theorem tail_r (c : T_api_Code) (h : CSmall c) (hg : CGood c) (r p T : Int) (d : T_api_Def) (hd : lAt c.Defs r = some d) (hT : F_retraceref20_To c r = some T) (x : T_api_Ins) (b : Bool) :
    F_retraceref20_may_J5 c r p x d T b = some (!b && tailB c r p T d x) := by
  obtain ⟨hr0, hr1⟩ := lAt_rng hd
  have hE := hg d (lAt_mem hd)
  obtain ⟨T', hT', hTl⟩ := ok_To c h hg r hr0 hr1
  rw [hT] at hT'; cases hT'
  obtain ⟨s1, hs1, _⟩ := ok_rests c h hg r hr0 hr1 (w64 (p + 1))
  obtain ⟨s2, hs2, _⟩ := ok_rests c h hg r hr0 hr1 (tgt x).1
  have hc := cho_tgt x
  have j6 : F_retraceref20_may_J6 c r p x = some (!actsB x.Op || s1) := by
    unfold F_retraceref20_may_J6 F_retraceref20_may_J7
    simp only [acts_s, hs1, Option.bind_some, Option.getD_some]
    cases actsB x.Op <;> rfl
  have j8 : ∀ q, F_retraceref20_may_J8 c r p x q = some (!q && (!actsB x.Op || s1)) := fun q => by
    unfold F_retraceref20_may_J8
    rw [j6]
    cases q <;> rfl
  unfold F_retraceref20_may_J5 tailB
  simp only [tgt_s, Option.bind_some, j6, j8, chos_s, hs1, hs2, Option.getD_some]
  cases b
  · cases ht : (tgt x).2 with
    | false =>
      have : chosB x.Op = false := by
        cases hq : chosB x.Op
        · rfl
        · rw [hc hq] at ht; cases ht
      rw [this]; simp
    | true =>
      by_cases h1 : d.Entry ≤ (tgt x).1
      · rw [dct h1, dcf (show ¬ (tgt x).1 < d.Entry by omega)]
        by_cases h2 : (tgt x).1 < T
        · obtain ⟨z, hz, _⟩ := lAt_ok (l := c.Ins) (i := (tgt x).1) (by omega) (by omega)
          rw [dct h2, dcf (show ¬ T ≤ (tgt x).1 by omega), hz]
          by_cases h3 : p < (tgt x).1
          · rw [dct h3, dcf (show ¬ (tgt x).1 ≤ p by omega)]
            cases chosB x.Op <;> simp <;> grind
          · rw [dcf h3, dct (show (tgt x).1 ≤ p by omega)]
            cases hz1 : (z.Op == 1) <;> cases chosB x.Op <;> simp [bne, hz1] <;> grind
        · rw [dcf h2, dct (show T ≤ (tgt x).1 by omega)]; simp
      · rw [dcf h1, dct (show (tgt x).1 < d.Entry by omega)]; simp
  · rfl
set_option maxHeartbeats 2000000 in
theorem may_eq (c : T_api_Code) (h : CSmall c) (hg : CGood c) (r p m T : Int) (d : T_api_Def) (hd : lAt c.Defs r = some d) (hT : F_retraceref20_To c r = some T) (h0 : 0 ≤ p) (h1 : p < c.Ins.length) :
    F_code_checker_may p ⟨c, m, d.Entry, T, d.Vars⟩ = F_retraceref20_may c r p m := by
  obtain ⟨x, hx, _⟩ := lAt_ok h0 h1
  obtain ⟨rb, hrb, _⟩ := ok_IRight x
  obtain ⟨cb, hcb, _⟩ := ok_channel c h x.A x.B
  have tc := tail_c c h hg r p m T d hd hT x
  have tr := tail_r c h hg r p T d hd hT x
  generalize tailB c r p T d x = tl at tc tr
  unfold F_code_checker_may F_code_checker_may_J1 F_code_checker_may_J5
  unfold F_retraceref20_may F_retraceref20_may_J1 F_retraceref20_may_J2 F_retraceref20_may_J3 F_retraceref20_may_J4
  simp only [hx, hd, hT, Option.bind_some, right_eq, hrb, chan_eq c h.chans, hcb, tc, tr]
  have hdp : (0 ≤ x.A ∧ x.A < c.Defs.length ∧ ∃ q, lAt c.Defs x.A = some q) ∨ x.A < 0 ∨ (c.Defs.length : Int) ≤ x.A := by
    by_cases a1 : x.A < 0
    · exact .inr (.inl a1)
    by_cases a2 : (c.Defs.length : Int) ≤ x.A
    · exact .inr (.inr a2)
    obtain ⟨q, e, _⟩ := lAt_ok (l := c.Defs) (i := x.A) (by omega) (by omega)
    exact .inl ⟨by omega, by omega, q, e⟩
  have hout : x.Op < 1 ∨ 25 < x.Op → rb = false := fun ho => by
    have e1 := right_eq x
    unfold F_ins_Right at e1
    rw [find_out ho, hrb] at e1
    exact (Option.some.inj e1).symm
  clear hx tc tr hcb hrb
  obtain ⟨op, a, b⟩ := x
  simp only at hdp hout ⊢
  cases rb
  · cases (op == 24) <;> rfl
  · simp only [bne, Bool.not_true, cond_false]
    generalize (p == w64 (T - 1)) = pT
    generalize (p == d.Entry) = pE
    rcases opc op with ho | rfl | rfl | rfl | rfl | rfl | rfl | rfl | rfl | rfl | rfl | rfl | rfl | rfl | rfl | rfl | rfl | rfl | rfl | rfl | rfl | rfl | rfl | rfl | rfl | rfl
    · cases hout ho
    case inr.inr.inr.inr.inr.inr.inr.inr.inr.inr.inr.inr.inr.inr.inl =>
      rcases hdp with ⟨h2, h3, q, hq⟩ | h2 | h2
      · rw [dct h2, dct h3, dcf (show ¬ a < 0 by omega), dcf (show ¬ (c.Defs.length : Int) ≤ a by omega), hq]
        cases pT <;> cases pE <;> cases hb : (b == q.Params) <;> simp [hb]
      · rw [dcf (show ¬ 0 ≤ a by omega), dct h2]
        cases pT <;> cases pE <;> rfl
      · by_cases h3 : a < 0
        · rw [dcf (show ¬ 0 ≤ a by omega), dct h3]
          cases pT <;> cases pE <;> rfl
        · rw [dct (show 0 ≤ a by omega), dcf h3, dcf (show ¬ a < (c.Defs.length : Int) by omega), dct h2]
          cases pT <;> cases pE <;> rfl
    case inr.inr.inr.inr.inr.inr.inr.inr.inr.inl => cases cb <;> cases pT <;> cases pE <;> cases decide (a < 0) <;> cases decide (d.Vars ≤ a) <;> rfl
    all_goals
      by_cases h2 : 0 ≤ a
      · by_cases h3 : a < d.Vars
        · rw [dcf (show ¬ a < 0 by omega), dcf (show ¬ d.Vars ≤ a by omega)]
          simp only [dct h2, dct h3]
          cases pT <;> cases pE <;> first | rfl | (cases hm : (a == m) <;> first | rfl | simp [hm])
        · rw [dcf (show ¬ a < 0 by omega), dct (show d.Vars ≤ a by omega)]
          simp only [dct h2, dcf h3]
          cases pT <;> cases pE <;> first | rfl | (cases hm : (a == m) <;> first | rfl | simp [hm])
      · rw [dct (show a < 0 by omega)]
        simp only [dcf h2]
        cases pT <;> cases pE <;> first | rfl | (cases hm : (a == m) <;> first | rfl | simp [hm])
end Go.Ab
end

section
/- Names. -/
namespace Go.Ab
set_option linter.unusedVariables false
set_option maxRecDepth 10000
noncomputable def nameB (s : ByteArray) : Bool := (F_retraceref08_Name s).getD false
end Go.Ab
end

section
/- All but the instructions. -/
namespace Go.Ab
set_option linter.unusedVariables false
set_option maxRecDepth 10000
theorem nam_s (s : ByteArray) (hs : s.size ≤ maxLen) : F_retraceref08_Name s = some (nameB s) := some_of (ok_Name s hs) _
noncomputable def chBad (b : Int) (x : T_api_Chan) : Bool := !nameB x.Name || (decide (x.Size < 0) || (decide (16 < x.Size) || !(x.Base == b)))
noncomputable def chG (b : Int) (x : T_api_Chan) : Int ⊕ Bool := if chBad b x = true then .inr false else if 64 < b + max x.Size 1 then .inr false else .inl (b + max x.Size 1)
noncomputable def chR (b : Int) (x : T_api_Chan) : Int ⊕ Bool := if (chBad b x || decide (64 ≤ b)) = true then .inr false else .inl (b + max x.Size 1)
theorem chR_big : ∀ (l : List T_api_Chan) (b : Int), 64 < b → scan chR (fun b => decide (b ≤ 64)) l b = false
  | [], b, h => by simp only [scan]; exact dcf (by omega)
  | x :: l, b, h => by
    simp only [scan, chR]
    rw [dct (show 64 ≤ b by omega), Bool.or_true, if_pos rfl]
theorem ch_same : ∀ (l : List T_api_Chan) (b : Int), b ≤ 64 → scan chG (fun _ => true) l b = scan chR (fun b => decide (b ≤ 64)) l b
  | [], b, h => by simp only [scan]; exact (dct h).symm
  | x :: l, b, h => by
    simp only [scan, chR, chG]
    cases hb : chBad b x with
    | true => simp
    | false =>
      have hs : 0 < max x.Size 1 := by omega
      simp only [Bool.false_or, Bool.false_eq_true, if_false, decide_eq_true_eq]
      by_cases h1 : 64 < b + max x.Size 1
      · rw [if_pos h1]
        by_cases h2 : 64 ≤ b
        · rw [if_pos h2]
        · rw [if_neg h2]
          exact (chR_big l _ h1).symm
      · rw [if_neg h1, if_neg (by omega)]
        exact ch_same l _ (by omega)
theorem chR_loop (c : T_api_Code) (hc : c.Chans.length ≤ 80) (hn : ∀ d ∈ c.Chans, d.Name.size ≤ maxLen) : Loop (fun s : (Int × Int) => F_retraceref20_tables_L6 c s.1 s.2) (0, 0) = some (scan chR (fun b => decide (b ≤ 64)) c.Chans 0) := by
  refine Loop_scan c.Chans (by omega) chR (fun b => decide (b ≤ 64)) (fun s i => (s, i)) (fun _ s => 0 ≤ s ∧ s ≤ 80) (fun k hk s hi => ?_) (fun k hk s s' hi e => ?_) (fun s hi => ?_) 0 ⟨by omega, by omega⟩
  · show F_retraceref20_tables_L6 c s (k : Int) = _
    unfold F_retraceref20_tables_L6 F_retraceref20_tables_J5 F_retraceref20_tables_J4 chR chBad
    rw [dct (by omega), lAt_lt hk]
    simp only [cond_true, Option.bind_some, nam_s _ (hn _ (List.getElem_mem hk)), bne]
    generalize c.Chans[k] = x
    cases nameB x.Name
    · rfl
    · by_cases h1 : x.Size < 0
      · rw [dct h1]; rfl
      by_cases h2 : 16 < x.Size
      · rw [dcf h1, dct h2]; rfl
      rw [dcf h1, dcf h2]
      cases (x.Base == s)
      · rfl
      · simp only [Bool.not_true, cond_false, Bool.or_self, Bool.false_or]
        by_cases h3 : 64 ≤ s
        · rw [dct h3]; rfl
        · rw [dcf h3]
          simp only [cond_false, Bool.false_eq_true, if_false]
          by_cases h4 : x.Size = 0
          · rw [h4, w64i (n := s + 0) (by omega) (by omega), w64i (n := s + 0 + 1) (by omega) (by omega)]
            simp [Sum.map, show max (0 : Int) 1 = 1 from rfl]
          · rw [beqf h4, w64i (n := s + x.Size) (by omega) (by omega), show max x.Size 1 = x.Size by omega]
            rfl
  · unfold chR at e
    split at e
    · cases e
    · rename_i hb
      cases e
      unfold chBad at hb
      simp at hb
      omega
  · show F_retraceref20_tables_L6 c s (c.Chans.length : Int) = _
    unfold F_retraceref20_tables_L6
    rw [dcf (by omega)]; rfl
noncomputable def nmB (s : ByteArray) : Bool := decide (s = ⟨#[109, 97, 105, 110]⟩) || nameB s
noncomputable def dfG (n : Nat) (u : Int) (d : T_api_Def) : Int ⊕ Bool :=
  if nmB d.Name = true ∧ ¬ (u < 0 ∧ d.Entry ≠ 0) ∧ u < d.Entry ∧ d.Entry < n ∧ 0 ≤ d.Params ∧ d.Params ≤ d.Vars ∧ d.Vars ≤ 16 then .inl d.Entry else .inr false
theorem dfR_loop (c : T_api_Code) (hd : c.Defs.length ≤ 40) (hn : ∀ d ∈ c.Defs, d.Name.size ≤ maxLen) (hc : c.Chans.length ≤ 80) (hm : ∀ d ∈ c.Chans, d.Name.size ≤ maxLen) :
    Loop (fun s : (Int) => F_retraceref20_tables_L7 c s) 0 = some (scan (dfG c.Ins.length) (fun _ => scan chG (fun _ => true) c.Chans 0) c.Defs (-1)) := by
  refine Loop_scan c.Defs (by omega) (dfG c.Ins.length) _ (fun s i => i) (fun k s => (k = 0 → s = -1) ∧ (∀ d, 0 < k → c.Defs[k - 1]? = some d → s = d.Entry ∧ 0 ≤ s)) (fun k hk s hi => ?_) (fun k hk s s' hi e => ?_) (fun s hi => ?_) (-1) ⟨fun _ => rfl, fun d h => by omega⟩
  · show F_retraceref20_tables_L7 c (k : Int) = _
    unfold F_retraceref20_tables_L7 F_retraceref20_tables_J2 F_retraceref20_tables_J3 dfG nmB
    rw [dct (show (k : Int) < c.Defs.length by omega), lAt_lt hk]
    simp only [cond_true, Option.bind_some, nam_s _ (hn _ (List.getElem_mem hk)), bne, eqS]
    obtain ⟨i1, i2⟩ := hi
    have hprev : 0 < k → ∃ y, c.Defs[k - 1]? = some y ∧ lAt c.Defs (w64 ((k : Int) - 1)) = some y := fun h => by
      have hlt : k - 1 < c.Defs.length := by omega
      refine ⟨c.Defs[k - 1], List.getElem?_eq_getElem hlt, ?_⟩
      rw [w64i (by omega) (by omega), show (k : Int) - 1 = ((k - 1 : Nat) : Int) by omega, lAt_lt hlt]
    generalize c.Defs[k] = x
    generalize decide (x.Name = ⟨#[109, 97, 105, 110]⟩) = q1
    generalize nameB x.Name = q2
    have e2 : (x.Entry == 0) = decide (x.Entry = 0) := rfl
    have e3 : ((k : Int) == 0) = decide (k = 0) := decide_eq_decide.2 (by omega)
    rcases Nat.eq_zero_or_pos k with hk0 | hk0
    · subst hk0
      have := i1 rfl
      subst this
      simp only [cond_eq_ite, e2, Bool.not_eq_true', decide_eq_true_eq, Bool.or_eq_true, decide_eq_false_iff_not, Option.map_some]
      cases q1 <;> cases q2 <;> grind [Sum.map]
    · obtain ⟨y, hy, hb⟩ := hprev hk0
      obtain ⟨rfl, i3⟩ := i2 y hk0 hy
      simp only [hb, Option.bind_some]
      simp only [cond_eq_ite, e2, e3, Bool.not_eq_true', decide_eq_true_eq, Bool.or_eq_true, decide_eq_false_iff_not, Option.map_some]
      cases q1 <;> cases q2 <;> grind [Sum.map]
  · unfold dfG at e
    split at e
    · rename_i h
      cases e
      refine ⟨fun h => by omega, fun d _ hq => ?_⟩
      rw [Nat.add_sub_cancel, List.getElem?_eq_getElem hk] at hq
      cases hq
      refine ⟨rfl, ?_⟩
      obtain ⟨i1, i2⟩ := hi
      rcases Nat.eq_zero_or_pos k with hk0 | hk0
      · have := i1 hk0
        have := h.2.1
        omega
      · obtain ⟨i3, i4⟩ := i2 _ hk0 (List.getElem?_eq_getElem (show k - 1 < c.Defs.length by omega))
        have := h.2.2.1
        omega
    · cases e
  · show F_retraceref20_tables_L7 c (c.Defs.length : Int) = _
    unfold F_retraceref20_tables_L7
    rw [dcf (by omega), chR_loop c hc hm, ← ch_same c.Chans 0 (by omega)]; rfl
end Go.Ab
end

section
/- What is there at each place: the program's map and the reference's row. -/
namespace Go.Ab
set_option linter.unusedVariables false
set_option maxRecDepth 10000
theorem mGet_put {α : Type} (l : List (Int × α)) (k q : Int) (x : α) : mGet (mPut l k x) q = if q = k then some x else mGet l q := by
  induction l with
  | nil =>
    simp only [mPut, mGet, beq_iff_eq]
  | cons p l ih =>
    simp only [mPut]
    by_cases h : k = p.1
    · rw [if_pos (beqt h)]
      simp only [mGet, beq_iff_eq]
      by_cases h2 : q = k
      · rw [if_pos (h2.trans h), if_pos h2]
      · rw [if_neg (fun e => h2 (e.trans h.symm)), if_neg h2, if_neg (fun e => h2 (e.trans h.symm))]
    · rw [if_neg (by rw [beqf h]; decide)]
      simp only [mGet, beq_iff_eq]
      by_cases h2 : q = p.1
      · rw [if_pos h2, if_neg (fun e => h (e.symm.trans h2)), if_pos h2]
      · rw [if_neg h2, if_neg h2, ih]
theorem lAt_set {α : Type} (l : List α) (k q : Int) (x : α) (h0 : 0 ≤ k) (h1 : k < l.length) (hq : 0 ≤ q) : lAt (List.set l k.toNat x) q = if q = k then some x else lAt l q := by
  unfold lAt
  rw [if_pos hq, List.getElem?_set]
  by_cases h : q = k
  · subst h; rw [if_pos rfl, if_pos (by omega), if_pos rfl]
  · rw [if_neg (by omega), if_neg h, if_pos hq]
def isOf (o : Option T_code_there) : T_retraceref20_Is := match o with | some t => ⟨true, t.n, t.choose⟩ | none => ⟨false, 0, false⟩
structure FI (n : Nat) (p : Int) (kn : List (Int × T_code_there)) (all : List T_retraceref20_Is) : Prop where
  len : all.length = n + 1
  rel : ∀ q : Int, p ≤ q → q ≤ n → lAt all q = some (isOf (mGet kn q))
theorem FI.up {n : Nat} {p p' : Int} {kn : List (Int × T_code_there)} {all : List T_retraceref20_Is} (h : FI n p kn all) (hp : p ≤ p') : FI n p' kn all := ⟨h.len, fun q a b => h.rel q (by omega) b⟩
def isCl (r : (List T_retraceref20_Is × Bool) ⊕ (List T_retraceref20_Is × Bool)) : List T_retraceref20_Is × Bool := match r with | .inl r => r | .inr r => r
theorem meet_rel {n : Nat} (hn : n ≤ 150) {p to : Int} (hp : 0 ≤ p) (ht : to ≤ n) (now : T_code_there) {kn : List (Int × T_code_there)} {all : List T_retraceref20_Is} (h : FI n (p + 1) kn all) :
    ∃ ok' kn' r, F_code_checker_flow_1 to now p true kn = some (ok', kn') ∧ F_retraceref20_meets p to ⟨true, now.n, now.choose⟩ all = some r ∧ (isCl r).2 = ok' ∧ FI n (p + 1) kn' (isCl r).1 := by
  unfold F_code_checker_flow_1 F_retraceref20_meets Let
  by_cases h1 : to ≤ p
  · rw [dct h1]
    refine ⟨_, _, _, rfl, rfl, ?_, h⟩
    show (true == true && _) = _
    rfl
  · rw [dcf h1]
    have hr := h.rel to (by omega) ht
    have hl : to < all.length := by rw [h.len]; omega
    cases hg : mGet kn to with
    | some t =>
      rw [hg] at hr
      simp only [hr, isOf, cond_false, Option.bind_some, cond_true, Option.isSome_some, Option.getD_some]
      refine ⟨_, _, _, rfl, rfl, ?_, h⟩
      show (true == true && ((t.n == now.n) && ((t.choose == now.choose) && true))) = ((now.n == t.n) && ((now.choose == t.choose) && true))
      rw [show (t.n == now.n) = (now.n == t.n) from BEq.comm, show (t.choose == now.choose) = (now.choose == t.choose) from BEq.comm]
      rfl
    | none =>
      rw [hg] at hr
      simp only [hr, isOf, cond_false, Option.bind_some, Option.isSome_none]
      rw [grd_t (by simp [h.len]; omega), List.nil_append, hr]
      refine ⟨_, _, _, rfl, rfl, rfl, ?_⟩
      show FI n (p + 1) (mPut kn to now) (List.set all to.toNat ⟨true, now.n, now.choose⟩)
      refine ⟨by rw [List.length_set]; exact h.len, fun q a b => ?_⟩
      rw [lAt_set all to q _ (by omega) hl (by omega), mGet_put]
      by_cases hq : q = to
      · rw [if_pos hq, if_pos hq]; rfl
      · rw [if_neg hq, if_neg hq]; exact h.rel q a b
/-- The two go on alike. -/
def Alike (n : Nat) (p : Int) (a : Option ((List (Int × T_code_there) × Int) ⊕ (Int × Bool))) (b : Option ((Int × List T_retraceref20_Is) ⊕ (List T_retraceref20_Is × Int))) : Prop :=
  (∃ all, a = some (.inr (p, false)) ∧ b = some (.inr (all, p))) ∨ ∃ kn all, a = some (.inl (kn, p + 1)) ∧ b = some (.inl (p + 1, all)) ∧ FI n (p + 1) kn all
theorem flow_step (c : T_api_Code) (h : CSmall c) (r p m T V : Int) (E : Int) (hT : F_retraceref20_To c r = some T) (x : T_api_Ins) (hp0 : 0 ≤ p) (hpT : p < T) (hTl : T ≤ c.Ins.length) (hx : lAt c.Ins p = some x)
    (ht : (tgt x).2 = true → (tgt x).1 < c.Ins.length) {kn : List (Int × T_code_there)} {all : List T_retraceref20_Is} (hf : FI c.Ins.length p kn all) :
    Alike c.Ins.length p (F_code_checker_flow_L7 ⟨c, m, E, T, V⟩ kn p) (F_retraceref20_Flow_L8 c r p all) := by
  have hi := h.ins
  have e1 : w64 (p + 1) = p + 1 := w64i (by omega) (by omega)
  have hr := hf.rel p (by omega) (by omega)
  have hl : p < all.length := by rw [hf.len]; omega
  have j4 : ∀ ok kn' all', FI c.Ins.length (p + 1) kn' all' → Alike c.Ins.length p (F_code_checker_flow_J4 p kn' ok) (F_retraceref20_Flow_J5 p ok all') := fun ok kn' all' hf' => by
    unfold F_code_checker_flow_J4 F_code_checker_flow_J1 F_retraceref20_Flow_J5 F_retraceref20_Flow_J1
    rw [e1]
    cases ok
    · exact .inl ⟨_, rfl, rfl⟩
    · exact .inr ⟨_, _, rfl, rfl, hf'⟩
  have j5 : ∀ (nx : T_code_there) b kn' all' (u : Bool), FI c.Ins.length (p + 1) kn' all' → Alike c.Ins.length p (F_code_checker_flow_J5 p (nx, u) kn' true b) (F_retraceref20_Flow_J6 p nx.n nx.choose true all' b) := fun nx b kn' all' u hf' => by
    unfold F_code_checker_flow_J5 F_retraceref20_Flow_J6
    rw [e1]
    cases b
    · exact j4 true kn' all' hf'
    · obtain ⟨ok', kn2, rr, q1, q2, q3, q4⟩ := meet_rel hi hp0 (show p + 1 ≤ c.Ins.length by omega) nx hf'
      simp only [cond_true, q1, q2, Option.bind_some]
      subst q3
      cases rr with
      | inl rr => exact j4 _ _ _ q4
      | inr rr => exact j4 _ _ _ q4
  have j3 : ∀ (nx : T_code_there) ok kn' all', FI c.Ins.length (p + 1) kn' all' → Alike c.Ins.length p (F_code_checker_flow_J3 p x (nx, true) kn' ok) (F_retraceref20_Flow_J4 p x nx.n nx.choose ok all') := fun nx ok kn' all' hf' => by
    unfold F_code_checker_flow_J3 F_retraceref20_Flow_J4
    cases ok
    · unfold F_code_checker_flow_J5
      exact .inl ⟨_, rfl, rfl⟩
    · simp only [cond_true, Bool.not_true, cond_false]
      cases (x.Op != 6)
      · exact j5 nx false kn' all' true hf'
      · cases (x.Op != 18)
        · exact j5 nx false kn' all' true hf'
        · cases (x.Op != 23)
          · exact j5 nx false kn' all' true hf'
          · exact j5 nx _ kn' all' true hf'
  have hset : ∀ y, FI c.Ins.length (p + 1) kn (List.set all p.toNat y) := fun y => by
    refine ⟨by rw [List.length_set]; exact hf.len, fun q a b => ?_⟩
    rw [lAt_set all p q _ hp0 hl (by omega), if_neg (by omega)]
    exact hf.rel q (by omega) b
  have j2 : Alike c.Ins.length p (F_code_checker_flow_J2 kn p (mGet kn p) x false) (F_retraceref20_Flow_J2 c p all false) := by
    unfold F_code_checker_flow_J2 F_retraceref20_Flow_J2 F_retraceref20_Flow_J3 F_retraceref20_Flow_J7 F_code_checker_flow_J6
    obtain ⟨nx, hfit, hnx⟩ := fits_eq x ((mGet kn p).getD ⟨0, false⟩)
    have hy : ∃ N C, isOf (mGet kn p) = ⟨(isOf (mGet kn p)).Come, N, C⟩ ∧ (mGet kn p).getD ⟨0, false⟩ = ⟨N, C⟩ := by
      cases mGet kn p with
      | none => exact ⟨0, false, rfl, rfl⟩
      | some t => exact ⟨t.n, t.choose, rfl, rfl⟩
    obtain ⟨N, C, g1, g2⟩ := hy
    rw [g2] at hfit hnx
    rw [g1] at hr
    have hs := lAt_set all p p (⟨true, N, C⟩ : T_retraceref20_Is) hp0 hl hp0
    rw [if_pos rfl] at hs
    simp only [cond_false, hr, hx, hs, Option.bind_some, fit_s, tak_s, giv_s, tgt_s, chos_s, g2, hfit, target_eq, chooses_eq]
    cases hb : fitB x N C with
    | false =>
      left
      refine ⟨List.set all p.toNat ⟨true, N, C⟩, ?_, ?_⟩
      · unfold F_code_checker_flow_J3 F_code_checker_flow_J5 F_code_checker_flow_J4
        cases (tgt x).2 <;> rfl
      · rfl
    | true =>
      have hnx := hnx hb
      have hcc : (C || (x.Op == 25)) = nx.choose := by rw [hnx]
      have hnn : w64 (w64 (N - takN x) + givN x) = nx.n := by rw [hnx]
      have key : ∀ (ch : Bool), ch = nx.choose → Alike c.Ins.length p
          (cond (tgt x).2 (cond (chosB x.Op) ((F_code_checker_flow_1 (tgt x).1 ⟨0, false⟩ p true kn).bind fun y269 => F_code_checker_flow_J3 p x (nx, true) y269.2 y269.1) ((F_code_checker_flow_1 (tgt x).1 nx p true kn).bind fun y270 => F_code_checker_flow_J3 p x (nx, true) y270.2 y270.1)) (F_code_checker_flow_J3 p x (nx, true) kn true))
          (cond (tgt x).2 (cond (chosB x.Op) ((F_retraceref20_meets p (tgt x).1 ⟨true, 0, false⟩ (List.set all p.toNat ⟨true, N, C⟩)).bind fun y429 => (Sum.elim (fun y430 => F_retraceref20_Flow_J4 p x nx.n ch y430.2 y430.1) (fun y431 => F_retraceref20_Flow_J4 p x nx.n ch y431.2 y431.1)) y429) ((F_retraceref20_meets p (tgt x).1 ⟨true, nx.n, ch⟩ (List.set all p.toNat ⟨true, N, C⟩)).bind fun y429 => (Sum.elim (fun y430 => F_retraceref20_Flow_J4 p x nx.n ch y430.2 y430.1) (fun y431 => F_retraceref20_Flow_J4 p x nx.n ch y431.2 y431.1)) y429)) (F_retraceref20_Flow_J4 p x nx.n ch true (List.set all p.toNat ⟨true, N, C⟩))) := by
        intro ch hch
        subst hch
        cases htt : (tgt x).2 with
        | false => exact j3 nx true kn _ (hset _)
        | true =>
          have := ht htt
          have mm : ∀ now : T_code_there, Alike c.Ins.length p ((F_code_checker_flow_1 (tgt x).1 now p true kn).bind fun y269 => F_code_checker_flow_J3 p x (nx, true) y269.2 y269.1)
              ((F_retraceref20_meets p (tgt x).1 ⟨true, now.n, now.choose⟩ (List.set all p.toNat ⟨true, N, C⟩)).bind fun y429 => (Sum.elim (fun y430 => F_retraceref20_Flow_J4 p x nx.n nx.choose y430.2 y430.1) (fun y431 => F_retraceref20_Flow_J4 p x nx.n nx.choose y431.2 y431.1)) y429) := fun now => by
            obtain ⟨ok', kn2, rr, q1, q2, q3, q4⟩ := meet_rel hi hp0 (show (tgt x).1 ≤ c.Ins.length by omega) now (hset ⟨true, N, C⟩)
            simp only [q1, q2, Option.bind_some]
            subst q3
            cases rr with
            | inl rr => exact j3 nx _ _ _ q4
            | inr rr => exact j3 nx _ _ _ q4
          cases chosB x.Op
          · exact mm nx
          · exact mm ⟨0, false⟩
      simp only [Bool.not_true, cond_false, hnn]
      cases C with
      | true =>
        have := key true (by rw [← hcc]; rfl)
        revert this
        cases (tgt x).2 <;> exact id
      | false =>
        have := key (x.Op == 25) (by rw [← hcc]; rfl)
        revert this
        cases (tgt x).2 <;> exact id
  unfold F_code_checker_flow_L7 F_retraceref20_Flow_L8 Let
  rw [hT]
  simp only [Option.bind_some, dct hpT, cond_true, hr, hx]
  have hcome : (isOf (mGet kn p)).Come = (mGet kn p).isSome := by cases mGet kn p <;> rfl
  rw [hcome]
  cases (mGet kn p).isSome with
  | true => exact j2
  | false =>
    cases hq : (x.Op != 1) with
    | false => simp only [Bool.not_false, cond_true, hq]; exact j2
    | true =>
      simp only [Bool.not_false, cond_true, hq]
      unfold F_code_checker_flow_J2 F_code_checker_flow_J1 F_retraceref20_Flow_J2 F_retraceref20_Flow_J1
      rw [e1]
      exact .inr ⟨_, _, rfl, rfl, hf.up (by omega)⟩
end Go.Ab
end

section
/- Whether code may be: the program answers as the reference. -/
namespace Go.Ab
set_option linter.unusedVariables false
set_option maxRecDepth 10000
theorem grd2 {α : Type} (a b : Int) (k : Option α) : grd ((([a, b] : List Int)).length = 2 ∧ ((List.replicate 2 (0 : Int))).length = 2) k = k := grd_t ⟨rfl, rfl⟩ k
theorem grd1 {α : Type} (a b : Int) (k : Option α) : grd ((([a, b] : List Int)).length = 2) k = k := grd_t rfl k
theorem rep_at (n : Nat) (q : Int) (x : T_retraceref20_Is) (h0 : 0 ≤ q) (h1 : q < n) : lAt (List.replicate n x) q = some x := by
  obtain ⟨k, rfl⟩ := Int.eq_ofNat_of_zero_le h0
  rw [lAt_lt (by rw [List.length_replicate]; omega), List.getElem_replicate]
/-- The flow of a routine. -/
theorem flow_eq (c : T_api_Code) (h : CSmall c) (hg : CGood c) (r m T : Int) (d : T_api_Def) (hd : lAt c.Defs r = some d) (hT : F_retraceref20_To c r = some T)
    (ht : ∀ p x, d.Entry ≤ p → p < T → lAt c.Ins p = some x → (tgt x).2 = true → (tgt x).1 < c.Ins.length) :
    ∃ a ok all b, F_code_checker_flow ⟨c, m, d.Entry, T, d.Vars⟩ = some (a, ok) ∧ F_retraceref20_Flow c r = some (all, b) ∧ ((ok = true ∧ a = 0 ∧ b = -1) ∨ (ok = false ∧ a = b ∧ 0 ≤ b)) := by
  have hi := h.ins
  obtain ⟨hr0, hr1⟩ := lAt_rng hd
  have hE := hg d (lAt_mem hd)
  obtain ⟨T', hT', hTl⟩ := ok_To c h hg r hr0 hr1
  rw [hT] at hT'; cases hT'
  have key : ∀ n (p : Int) kn all, d.Entry ≤ p → p ≤ max d.Entry T → (max d.Entry T - p).toNat ≤ n → FI c.Ins.length p kn all →
      ∃ a ok all' b, Loop (fun s : ((List (Int × T_code_there)) × Int) => F_code_checker_flow_L7 ⟨c, m, d.Entry, T, d.Vars⟩ s.1 s.2) (kn, p) = some (a, ok) ∧ Loop (fun s : (Int × (List T_retraceref20_Is)) => F_retraceref20_Flow_L8 c r s.1 s.2) (p, all) = some (all', b) ∧ ((ok = true ∧ a = 0 ∧ b = -1) ∨ (ok = false ∧ a = b ∧ 0 ≤ b)) := by
    intro n
    induction n with
    | zero =>
      intro p kn all h1 h2 h3 hf
      have : ¬ p < T := by omega
      refine ⟨0, true, all, -1, Loop_inr ?_, Loop_inr ?_, .inl ⟨rfl, rfl, rfl⟩⟩
      · show F_code_checker_flow_L7 _ kn p = _
        unfold F_code_checker_flow_L7
        rw [dcf this]; rfl
      · show F_retraceref20_Flow_L8 c r p all = _
        unfold F_retraceref20_Flow_L8
        rw [hT]
        simp only [Option.bind_some, dcf this]; rfl
    | succ n ih =>
      intro p kn all h1 h2 h3 hf
      by_cases hp : p < T
      · obtain ⟨x, hx, _⟩ := lAt_ok (l := c.Ins) (i := p) (by omega) (by omega)
        rcases flow_step c h r p m T d.Vars d.Entry hT x (by omega) hp hTl hx (ht p x h1 hp hx) hf with ⟨all', q1, q2⟩ | ⟨kn', all', q1, q2, q3⟩
        · exact ⟨p, false, all', p, Loop_inr q1, Loop_inr q2, .inr ⟨rfl, rfl, by omega⟩⟩
        · obtain ⟨a, ok, all2, b, g1, g2, g3⟩ := ih (p + 1) kn' all' (by omega) (by omega) (by omega) q3
          exact ⟨a, ok, all2, b, (Loop_inl q1).trans g1, (Loop_inl q2).trans g2, g3⟩
      · refine ⟨0, true, all, -1, Loop_inr ?_, Loop_inr ?_, .inl ⟨rfl, rfl, rfl⟩⟩
        · show F_code_checker_flow_L7 _ kn p = _
          unfold F_code_checker_flow_L7
          rw [dcf hp]; rfl
        · show F_retraceref20_Flow_L8 c r p all = _
          unfold F_retraceref20_Flow_L8
          rw [hT]
          simp only [Option.bind_some, dcf hp]; rfl
  unfold F_code_checker_flow F_retraceref20_Flow
  have e1 : w64 ((c.Ins.length : Int) + 1) = (c.Ins.length : Int) + 1 := w64i (by omega) (by omega)
  have e2 : Int.toNat ((c.Ins.length : Int) + 1) = c.Ins.length + 1 := by omega
  rw [e1, grd_t ⟨by omega, by omega, by omega, by omega⟩, e2, hd]
  simp only [Option.bind_some, rep_at (c.Ins.length + 1) d.Entry _ hE.1 (by omega)]
  refine key _ d.Entry _ _ (Int.le_refl _) (by omega) (Nat.le_refl _) ⟨by rw [List.length_set, List.length_replicate], fun q a b => ?_⟩
  rw [lAt_set _ _ _ _ hE.1 (by rw [List.length_replicate]; omega) (by omega)]
  simp only [mGet, beq_iff_eq]
  by_cases hq : q = d.Entry
  · rw [if_pos hq, if_pos hq]; rfl
  · rw [if_neg hq, if_neg hq, rep_at _ _ _ (by omega) (by omega)]; rfl
/-- All of a routine's instructions may be. -/
def MayAll (c : T_api_Code) (r : Int) : Prop := ∀ d T p, lAt c.Defs r = some d → F_retraceref20_To c r = some T → d.Entry ≤ p → p < T → ∃ m, 0 ≤ m ∧ F_retraceref20_may c r p m = some true
theorem may_tgt (c : T_api_Code) (h : CSmall c) (hg : CGood c) {r : Int} (hr0 : 0 ≤ r) (hr1 : r < c.Defs.length) (hm : MayAll c r) {d : T_api_Def} {T : Int} (hd : lAt c.Defs r = some d) (hT : F_retraceref20_To c r = some T) :
    ∀ p x, d.Entry ≤ p → p < T → lAt c.Ins p = some x → (tgt x).2 = true → (tgt x).1 < c.Ins.length := by
  intro p x h1 h2 hx ht
  obtain ⟨m, _, e⟩ := hm d T p hd hT h1 h2
  have hE := hg d (lAt_mem hd)
  obtain ⟨T', hT', hTl⟩ := ok_To c h hg r hr0 hr1
  rw [hT] at hT'; cases hT'
  have := (ok_may c h hg r hr0 hr1 p m (by omega) (by omega)).get e rfl x (tgt x).1 hx (by rw [tgt_s]; congr 1; rw [← ht])
  exact this.2
abbrev CkS := (Int × (List T_api_Ins) × (List T_api_Def) × (List T_api_Chan) × Int × Int × Int × Int × Int × Int)
theorem inner_eq (c : T_api_Code) (h : CSmall c) (hg : CGood c) (r T : Int) (d : T_api_Def) (hd : lAt c.Defs r = some d) (hT : F_retraceref20_To c r = some T) (m0 B : Int) (hB : B ≤ 1000000) : ∀ (n : Nat) (p m : Int), d.Entry ≤ p → (T - p).toNat ≤ n → 0 ≤ m → m + (T - p).toNat ≤ B →
    (∃ q, Loop (fun s : (Int × Int) => F_code_Check_L2 c r ⟨c, m0, d.Entry, T, d.Vars⟩ s.1 s.2) (p, m) = some (.inr (q, 15)) ∧ Loop (fun s : (Int × Int) => F_retraceref20_Check_L2 c r s.1 s.2) (m, p) = some (.inr [q, 15])) ∨
    ∃ m' f t v, Loop (fun s : (Int × Int) => F_code_Check_L2 c r ⟨c, m0, d.Entry, T, d.Vars⟩ s.1 s.2) (p, m) = some (.inl (w64 (r + 1), c.Ins, c.Defs, c.Chans, c.Main, c.Stmts, m', f, t, v)) ∧ Loop (fun s : (Int × Int) => F_retraceref20_Check_L2 c r s.1 s.2) (m, p) = some (.inl (m', w64 (r + 1))) ∧
      0 ≤ m' ∧ m' ≤ B ∧ ∀ q, p ≤ q → q < T → ∃ m, 0 ≤ m ∧ F_retraceref20_may c r q m = some true := by
  have hi := h.ins
  obtain ⟨hr0, hr1⟩ := lAt_rng hd
  have hE := hg d (lAt_mem hd)
  obtain ⟨T', hT', hTl⟩ := ok_To c h hg r hr0 hr1
  rw [hT] at hT'; cases hT'
  have fin : ∀ p m : Int, ¬ p < T → 0 ≤ m → m ≤ B → (∃ q, Loop (fun s : (Int × Int) => F_code_Check_L2 c r ⟨c, m0, d.Entry, T, d.Vars⟩ s.1 s.2) (p, m) = some (.inr (q, 15)) ∧ Loop (fun s : (Int × Int) => F_retraceref20_Check_L2 c r s.1 s.2) (m, p) = some (.inr [q, 15])) ∨
    ∃ m' f t v, Loop (fun s : (Int × Int) => F_code_Check_L2 c r ⟨c, m0, d.Entry, T, d.Vars⟩ s.1 s.2) (p, m) = some (.inl (w64 (r + 1), c.Ins, c.Defs, c.Chans, c.Main, c.Stmts, m', f, t, v)) ∧ Loop (fun s : (Int × Int) => F_retraceref20_Check_L2 c r s.1 s.2) (m, p) = some (.inl (m', w64 (r + 1))) ∧
      0 ≤ m' ∧ m' ≤ B ∧ ∀ q, p ≤ q → q < T → ∃ m, 0 ≤ m ∧ F_retraceref20_may c r q m = some true := by
    intro p m hp hm0 hmB
    refine .inr ⟨m, d.Entry, T, d.Vars, Loop_inr ?_, Loop_inr ?_, hm0, hmB, fun q a b => by omega⟩
    · show F_code_Check_L2 c r _ p m = _
      unfold F_code_Check_L2
      rw [dcf hp]; rfl
    · show F_retraceref20_Check_L2 c r m p = _
      unfold F_retraceref20_Check_L2
      rw [hT]
      simp only [Option.bind_some, dcf hp]; rfl
  intro n
  induction n with
  | zero => intro p m h1 h2 h3 h4; exact fin p m (by omega) h3 (by omega)
  | succ n ih =>
    intro p m h1 h2 h3 h4
    by_cases hp : p < T
    · obtain ⟨x, hx, _⟩ := lAt_ok (l := c.Ins) (i := p) (by omega) (by omega)
      have hme := may_eq c h hg r p m T d hd hT (by omega) (by omega)
      obtain ⟨b, hb, _⟩ := ok_may c h hg r hr0 hr1 p m (by omega) (by omega)
      rw [hb] at hme
      have e1 : w64 (p + 1) = p + 1 := w64i (by omega) (by omega)
      cases b with
      | false =>
        refine .inl ⟨p, Loop_inr ?_, Loop_inr ?_⟩
        · show F_code_Check_L2 c r _ p m = _
          unfold F_code_Check_L2
          rw [dct hp]
          simp only [cond_true, hme, Option.bind_some]; rfl
        · show F_retraceref20_Check_L2 c r m p = _
          unfold F_retraceref20_Check_L2
          rw [hT]
          simp only [Option.bind_some, dct hp, cond_true, hb, grd2, grd1]; rfl
      | true =>
        have hw : w64 (m + 1) = m + 1 := w64i (by omega) (by omega)
        have go : ∀ m2 : Int, (cond (x.Op == 1) (w64 (m + 1)) m) = m2 → (∃ q, Loop (fun s : (Int × Int) => F_code_Check_L2 c r ⟨c, m0, d.Entry, T, d.Vars⟩ s.1 s.2) (p, m) = some (.inr (q, 15)) ∧ Loop (fun s : (Int × Int) => F_retraceref20_Check_L2 c r s.1 s.2) (m, p) = some (.inr [q, 15])) ∨
            ∃ m' f t v, Loop (fun s : (Int × Int) => F_code_Check_L2 c r ⟨c, m0, d.Entry, T, d.Vars⟩ s.1 s.2) (p, m) = some (.inl (w64 (r + 1), c.Ins, c.Defs, c.Chans, c.Main, c.Stmts, m', f, t, v)) ∧ Loop (fun s : (Int × Int) => F_retraceref20_Check_L2 c r s.1 s.2) (m, p) = some (.inl (m', w64 (r + 1))) ∧
            0 ≤ m' ∧ m' ≤ B ∧ ∀ q, p ≤ q → q < T → ∃ m, 0 ≤ m ∧ F_retraceref20_may c r q m = some true := by
          intro m2 hm2
          have s1 : F_code_Check_L2 c r ⟨c, m0, d.Entry, T, d.Vars⟩ p m = some (.inl (p + 1, m2)) := by
            unfold F_code_Check_L2 F_code_Check_J1
            rw [dct hp, e1]
            simp only [cond_true, hme, Option.bind_some, hx, Bool.not_true, cond_false]
            rw [← hm2]
            cases x.Op == 1 <;> rfl
          have s2 : F_retraceref20_Check_L2 c r m p = some (.inl (m2, p + 1)) := by
            unfold F_retraceref20_Check_L2 F_retraceref20_Check_J1
            rw [hT, e1]
            simp only [Option.bind_some, dct hp, cond_true, hb, hx, Bool.not_true, cond_false]
            rw [← hm2]
            cases x.Op == 1 <;> rfl
          have hm2' : 0 ≤ m2 ∧ m2 ≤ m + 1 := by rw [← hm2, hw]; cases (x.Op == 1) <;> simp <;> omega
          rcases ih (p + 1) m2 (by omega) (by omega) hm2'.1 (by omega) with ⟨q, g1, g2⟩ | ⟨m', f, t, v, g1, g2, b1, b2, g3⟩
          · exact .inl ⟨q, (Loop_inl s1).trans g1, (Loop_inl s2).trans g2⟩
          · refine .inr ⟨m', f, t, v, (Loop_inl s1).trans g1, (Loop_inl s2).trans g2, b1, b2, fun q a b => ?_⟩
            by_cases hq : q = p
            · subst hq; exact ⟨m, h3, hb⟩
            · exact g3 q (by omega) b
        exact go _ rfl
    · exact fin p m hp h3 (by omega)
theorem flows_eq (c : T_api_Code) (h : CSmall c) (hg : CGood c) (hall : ∀ r : Int, 0 ≤ r → r < c.Defs.length → MayAll c r) : ∀ (n : Nat) (r m f t v : Int), 0 ≤ r → r ≤ c.Defs.length → (c.Defs.length - r).toNat ≤ n →
    ∃ a e, Loop (fun s : CkS => F_code_Check_L3 c s.1 s.2.1 s.2.2.1 s.2.2.2.1 s.2.2.2.2.1 s.2.2.2.2.2.1 s.2.2.2.2.2.2.1 s.2.2.2.2.2.2.2.1 s.2.2.2.2.2.2.2.2.1 s.2.2.2.2.2.2.2.2.2) (r, c.Ins, c.Defs, c.Chans, c.Main, c.Stmts, m, f, t, v) = some (a, e) ∧ Loop (fun s : Int => F_retraceref20_Check_L3 c s) r = some [a, e] ∧ (e = 0 → a = 0) := by
  have hd40 := h.defs
  have fin : ∀ r m f t v : Int, ¬ r < c.Defs.length → ∃ a e, Loop (fun s : CkS => F_code_Check_L3 c s.1 s.2.1 s.2.2.1 s.2.2.2.1 s.2.2.2.2.1 s.2.2.2.2.2.1 s.2.2.2.2.2.2.1 s.2.2.2.2.2.2.2.1 s.2.2.2.2.2.2.2.2.1 s.2.2.2.2.2.2.2.2.2) (r, c.Ins, c.Defs, c.Chans, c.Main, c.Stmts, m, f, t, v) = some (a, e) ∧ Loop (fun s : Int => F_retraceref20_Check_L3 c s) r = some [a, e] ∧ (e = 0 → a = 0) := by
    intro r m f t v hr
    refine ⟨0, 0, Loop_inr ?_, Loop_inr ?_, fun _ => rfl⟩
    · show F_code_Check_L3 c r c.Ins c.Defs c.Chans c.Main c.Stmts m f t v = _
      unfold F_code_Check_L3
      rw [dcf hr]; rfl
    · show F_retraceref20_Check_L3 c r = _
      unfold F_retraceref20_Check_L3
      rw [dcf hr, grd2, grd1]; rfl
  intro n
  induction n with
  | zero => intro r m f t v h0 h1 h2; exact fin r m f t v (by omega)
  | succ n ih =>
    intro r m f t v h0 h1 h2
    by_cases hr : r < c.Defs.length
    · obtain ⟨d, hd, _⟩ := lAt_ok h0 hr
      obtain ⟨T, hT, _⟩ := ok_To c h hg r h0 hr
      obtain ⟨a, ok, all, b, g1, g2, g3⟩ := flow_eq c h hg r m T d hd hT (may_tgt c h hg h0 hr (hall r h0 hr) hd hT)
      have e1 : w64 (r + 1) = r + 1 := w64i (by omega) (by omega)
      rcases g3 with ⟨rfl, rfl, rfl⟩ | ⟨rfl, rfl, hb⟩
      · have s1 : F_code_Check_L3 c r c.Ins c.Defs c.Chans c.Main c.Stmts m f t v = some (.inl (r + 1, c.Ins, c.Defs, c.Chans, c.Main, c.Stmts, m, d.Entry, T, d.Vars)) := by
          unfold F_code_Check_L3
          rw [dct hr, e1]
          simp only [cond_true, crout c r m f t v T d hd hT, Option.bind_some, g1]; rfl
        have s2 : F_retraceref20_Check_L3 c r = some (.inl (r + 1)) := by
          unfold F_retraceref20_Check_L3
          rw [dct hr, e1]
          simp only [cond_true, Option.bind_some, g2]; rfl
        obtain ⟨a, e, q1, q2, q3⟩ := ih (r + 1) m d.Entry T d.Vars (by omega) (by omega) (by omega)
        exact ⟨a, e, (Loop_inl s1).trans q1, (Loop_inl s2).trans q2, q3⟩
      · refine ⟨a, 14, Loop_inr ?_, Loop_inr ?_, fun h => by cases h⟩
        · show F_code_Check_L3 c r c.Ins c.Defs c.Chans c.Main c.Stmts m f t v = _
          unfold F_code_Check_L3
          rw [dct hr]
          simp only [cond_true, crout c r m f t v T d hd hT, Option.bind_some, g1]; rfl
        · show F_retraceref20_Check_L3 c r = _
          unfold F_retraceref20_Check_L3
          rw [dct hr]
          simp only [cond_true, Option.bind_some, g2, dct hb, grd2, grd1]; rfl
    · exact fin r m f t v hr
/-- What is known of code whose answer is OK. -/
structure COk (c : T_api_Code) : Prop where
  good : CGood c
  tab : F_retraceref20_tables c = some true
  may : ∀ r : Int, 0 ≤ r → r < c.Defs.length → MayAll c r
end Go.Ab
end

section
/- Where one rests in code that may be. -/
namespace Go.Ab
set_option linter.unusedVariables false
set_option maxRecDepth 10000
theorem dfG_inc : ∀ (l : List T_api_Def) (n : Nat) (u : Int) (fin : Bool), scan (dfG n) (fun _ => fin) l u = true → (∀ (k : Nat) (d : T_api_Def), l[k]? = some d → u < d.Entry) ∧ (∀ (i j : Nat) (a b : T_api_Def), i < j → l[i]? = some a → l[j]? = some b → a.Entry < b.Entry) ∧ (u < 0 → ∀ d, l[0]? = some d → d.Entry = 0)
  | [], n, u, fin, h => ⟨fun k d hd => by simp at hd, fun i j a b _ ha => by simp at ha, fun _ d hd => by simp at hd⟩
  | x :: l, n, u, fin, h => by
    simp only [scan, dfG] at h
    split at h
    · rename_i s' hs
      split at hs
      · rename_i hc
        cases hs
        obtain ⟨a1, a2, a3⟩ := dfG_inc l n _ fin h
        refine ⟨fun k d hd => ?_, fun i j a b hij ha hb => ?_, fun hu d hd => ?_⟩
        · cases k with
          | zero => simp at hd; subst hd; exact hc.2.2.1
          | succ k => have := a1 k d (by simpa using hd); have := hc.2.2.1; omega
        · cases i with
          | zero =>
            simp at ha; subst ha
            cases j with
            | zero => omega
            | succ j => exact a1 j b (by simpa using hb)
          | succ i =>
            cases j with
            | zero => omega
            | succ j => exact a2 i j a b (by omega) (by simpa using ha) (by simpa using hb)
        · simp at hd; subst hd
          have := hc.2.1
          omega
      · cases hs
    · rename_i r hs
      split at hs
      · cases hs
      · cases hs; cases h
structure Inc (c : T_api_Code) : Prop where
  inc : ∀ (i j : Nat) (a b : T_api_Def), i < j → c.Defs[i]? = some a → c.Defs[j]? = some b → a.Entry < b.Entry
  zero : ∀ d, c.Defs[0]? = some d → d.Entry = 0
  some : 0 < c.Defs.length
theorem COk.inc {c : T_api_Code} (h : CSmall c) (k : COk c) : Inc c := by
  have ht := k.tab
  unfold F_retraceref20_tables F_retraceref20_tables_J1 at ht
  rw [dfR_loop c h.defs h.dn h.chans h.cn] at ht
  by_cases h1 : (c.Defs.length : Int) < 1
  · rw [dct h1] at ht; cases ht
  rw [dcf h1] at ht
  have key : scan (dfG c.Ins.length) (fun _ => scan chG (fun _ => true) c.Chans 0) c.Defs (-1) = true := by
    by_cases h2 : (32 : Int) < c.Defs.length
    · rw [dct h2] at ht; cases ht
    rw [dcf h2] at ht
    by_cases h3 : (65536 : Int) < c.Ins.length
    · rw [dct h3] at ht; cases ht
    rw [dcf h3] at ht
    by_cases h4 : c.Main < 0
    · rw [dct h4] at ht; cases ht
    rw [dcf h4] at ht
    by_cases h5 : (c.Defs.length : Int) ≤ c.Main
    · rw [dct h5] at ht; cases ht
    rw [dcf h5] at ht
    obtain ⟨y, ey, _⟩ := lAt_ok (l := c.Defs) (i := c.Main) (by omega) (by omega)
    simp only [cond_false, ey, Option.bind_some] at ht
    cases hq : (y.Params != 0) with
    | true => rw [hq] at ht; cases ht
    | false => rw [hq] at ht; exact Option.some.inj ht
  obtain ⟨a1, a2, a3⟩ := dfG_inc _ _ _ _ key
  exact ⟨a2, a3 (by omega), by omega⟩
/-- A place lies in a routine. -/
structure InR (c : T_api_Code) (r : Int) (d : T_api_Def) (T p : Int) : Prop where
  hd : lAt c.Defs r = some d
  hT : F_retraceref20_To c r = some T
  lo : d.Entry ≤ p
  hi : p < T
theorem To_le {c : T_api_Code} (h : CSmall c) (k : COk c) {r T : Int} {d : T_api_Def} (hd : lAt c.Defs r = some d) (hT : F_retraceref20_To c r = some T) : 0 ≤ r ∧ r < c.Defs.length ∧ 0 ≤ d.Entry ∧ T ≤ c.Ins.length := by
  obtain ⟨hr0, hr1⟩ := lAt_rng hd
  have hE := k.good d (lAt_mem hd)
  obtain ⟨T', hT', hTl⟩ := ok_To c h k.good r hr0 hr1
  rw [hT] at hT'; cases hT'
  exact ⟨hr0, hr1, hE.1, hTl⟩
theorem inR_routine {c : T_api_Code} (h : CSmall c) (k : COk c) {r T p : Int} {d : T_api_Def} (hp : InR c r d T p) : routine c p = r := by
  obtain ⟨hr0, hr1, hE0, hTl⟩ := To_le h k hp.hd hp.hT
  have hlo := hp.lo
  have hhi := hp.hi
  have hI := k.inc h
  have hd40 := h.defs
  obtain ⟨n, rfl⟩ := Int.eq_ofNat_of_zero_le hr0
  have hdn : c.Defs[n]? = some d := by have := hp.hd; rwa [lAtn] at this
  have above : ∀ (j : Nat) (b : T_api_Def), n < j → c.Defs[j]? = some b → p < b.Entry := by
    intro j b hj hb
    have hT := hp.hT
    unfold F_retraceref20_To at hT
    have hjl := (List.getElem?_eq_some_iff.mp hb).1
    rw [w64i (by omega) (by omega), dct (by omega)] at hT
    rw [show ((n : Int) + 1) = ((n + 1 : Nat) : Int) by omega, lAtn, List.getElem?_eq_getElem (by omega)] at hT
    simp only [cond_true, Option.bind_some, Option.some.injEq] at hT
    rcases Nat.lt_or_ge (n + 1) j with h1 | h1
    · have := hI.inc (n + 1) j _ b h1 (List.getElem?_eq_getElem (by omega)) hb
      omega
    · have : j = n + 1 := by omega
      subst this
      rw [List.getElem?_eq_getElem hjl] at hb
      cases hb
      omega
  have bk : ∀ m, n < m → m ≤ c.Defs.length → back c p m = (n : Int) := by
    intro m
    induction m with
    | zero => intro h1; omega
    | succ m ih =>
      intro h1 h2
      simp only [back]
      rw [List.getElem?_eq_getElem (by omega)]
      simp only
      rcases Nat.lt_or_ge n m with h3 | h3
      · have := above m _ h3 (List.getElem?_eq_getElem (by omega))
        rw [if_neg (by omega)]
        exact ih h3 (by omega)
      · have : m = n := by omega
        subst this
        rw [List.getElem?_eq_getElem (by omega)] at hdn
        have e := Option.some.inj hdn
        rw [if_pos (by rw [e]; exact hlo)]
  unfold routine
  rw [if_pos ⟨by omega, by omega⟩]
  have := back_fold c p c.Defs.length (Nat.le_refl _)
  rw [List.take_of_length_le (by rw [List.length_zipIdx]; exact Nat.le_refl _)] at this
  rw [this]
  exact bk _ (by omega) (Nat.le_refl _)
theorem inR_ex {c : T_api_Code} (h : CSmall c) (k : COk c) {p : Int} (h0 : 0 ≤ p) (h1 : p < c.Ins.length) : ∃ r d T, InR c r d T p := by
  have hI := k.inc h
  have hd40 := h.defs
  have key : ∀ m, 0 < m → m ≤ c.Defs.length → ∃ n d, n < m ∧ c.Defs[n]? = some d ∧ d.Entry ≤ p ∧ ∀ (j : Nat) b, n < j → j < m → c.Defs[j]? = some b → p < b.Entry := by
    intro m
    induction m with
    | zero => intro h; omega
    | succ m ih =>
      intro _ hm
      have hg := List.getElem?_eq_getElem (show m < c.Defs.length by omega)
      by_cases he : (c.Defs[m]'(by omega)).Entry ≤ p
      · exact ⟨m, _, by omega, hg, he, fun j b a b' => by omega⟩
      · rcases Nat.eq_zero_or_pos m with hz | hz
        · subst hz
          have := hI.zero _ hg
          omega
        · obtain ⟨n, d, a1, a2, a3, a4⟩ := ih hz (by omega)
          refine ⟨n, d, by omega, a2, a3, fun j b b1 b2 b3 => ?_⟩
          rcases Nat.lt_or_ge j m with h5 | h5
          · exact a4 j b b1 h5 b3
          · have : j = m := by omega
            subst this
            rw [hg] at b3; cases b3
            omega
  obtain ⟨n, d, a1, a2, a3, a4⟩ := key _ hI.some (Nat.le_refl _)
  have hd : lAt c.Defs (n : Int) = some d := by rw [lAtn]; exact a2
  obtain ⟨T, hT, _⟩ := ok_To c h k.good (n : Int) (by omega) (by omega)
  refine ⟨n, d, T, hd, hT, a3, ?_⟩
  unfold F_retraceref20_To at hT
  rw [w64i (by omega) (by omega)] at hT
  by_cases hn : ((n : Int) + 1) < c.Defs.length
  · rw [dct hn, show ((n : Int) + 1) = ((n + 1 : Nat) : Int) by omega, lAtn, List.getElem?_eq_getElem (by omega)] at hT
    simp only [cond_true, Option.bind_some, Option.some.injEq] at hT
    have := a4 (n + 1) _ (by omega) (by omega) (List.getElem?_eq_getElem (by omega))
    omega
  · rw [dcf hn] at hT
    simp only [cond_false, Option.some.injEq] at hT
    omega
def NT (x : Option Bool) : Prop := ¬ x = some true
theorem NT.f : NT (some false) := fun h => by cases h
theorem NT.c {b : Bool} {x y : Option Bool} (h1 : NT x) (h2 : NT y) : NT (cond b x y) := by cases b; exact h2; exact h1
theorem NT.b {α : Type} {x : Option α} {f : α → Option Bool} (h : ∀ a, NT (f a)) : NT (x.bind f) := by
  cases x
  · exact fun h => by cases h
  · exact h _
/-- What is known where an instruction may be. -/
theorem may_true {c : T_api_Code} (h : CSmall c) (k : COk c) {r T p m : Int} {d : T_api_Def} (hp : InR c r d T p) {x : T_api_Ins} (hx : lAt c.Ins p = some x) (hm : F_retraceref20_may c r p m = some true) :
    F_retraceref16_Right x = some true ∧ (x.Op == 24) = (p == w64 (T - 1)) ∧ tailB c r p T d x = true := by
  obtain ⟨rb, hrb, _⟩ := ok_IRight x
  have tr := tail_r c h k.good r p T d hp.hd hp.hT x
  generalize tailB c r p T d x = tl at tr ⊢
  unfold F_retraceref20_may at hm
  simp only [hx, hp.hd, hp.hT, Option.bind_some, hrb] at hm
  have t1 : F_retraceref20_may_J1 c r p m x d T true = some false := rfl
  have key : tl = true := by
    cases tl with
    | true => rfl
    | false =>
      have j5 : ∀ b, NT (F_retraceref20_may_J5 c r p x d T b) := fun b => by rw [tr, Bool.and_false]; exact NT.f
      have j4 : ∀ b, NT (F_retraceref20_may_J4 c r p x d T b) := fun b => by
        unfold F_retraceref20_may_J4
        repeat' (first | exact NT.f | exact j5 _ | refine NT.c ?_ ?_ | refine NT.b fun _ => ?_)
      have j3 : ∀ b, NT (F_retraceref20_may_J3 c r p x d T b) := fun b => by
        unfold F_retraceref20_may_J3
        repeat' (first | exact NT.f | exact j4 _ | refine NT.c ?_ ?_ | refine NT.b fun _ => ?_)
      have j2 : ∀ b, NT (F_retraceref20_may_J2 c r p x d T b) := fun b => by
        unfold F_retraceref20_may_J2
        repeat' (first | exact NT.f | exact j3 _ | refine NT.c ?_ ?_ | refine NT.b fun _ => ?_)
      have j1 : ∀ b, NT (F_retraceref20_may_J1 c r p m x d T b) := fun b => by
        unfold F_retraceref20_may_J1
        repeat' (first | exact NT.f | exact j2 _ | refine NT.c ?_ ?_ | refine NT.b fun _ => ?_)
      refine absurd hm (?_ : NT _)
      repeat' (first | exact j1 _ | refine NT.c ?_ ?_)
  refine ⟨?_, ?_, key⟩
  · cases rb with
    | true => exact hrb
    | false => rw [t1] at hm; cases hm
  · simp only [bne] at hm
    cases h24 : (x.Op == 24) <;> cases hpt : (p == w64 (T - 1)) <;> rw [h24, hpt] at hm <;> first | rfl | (cases rb <;> (rw [t1] at hm; cases hm))
theorem COk.at {c : T_api_Code} (h : CSmall c) (k : COk c) {r T p : Int} {d : T_api_Def} (hp : InR c r d T p) : ∃ x, lAt c.Ins p = some x ∧ F_retraceref16_Right x = some true ∧ (x.Op == 24) = (p == w64 (T - 1)) ∧ tailB c r p T d x = true := by
  obtain ⟨hr0, hr1, hE0, hTl⟩ := To_le h k hp.hd hp.hT
  have hlo := hp.lo
  have hhi := hp.hi
  obtain ⟨x, hx, _⟩ := lAt_ok (l := c.Ins) (i := p) (by omega) (by omega)
  obtain ⟨m, _, hm⟩ := k.may r hr0 hr1 d T p hp.hd hp.hT hlo hhi
  exact ⟨x, hx, may_true h k hp hx hm⟩
/-- One rests: at a mark, or an end, of the routine. -/
theorem rests_get {c : T_api_Code} (h : CSmall c) {r T a : Int} {d : T_api_Def} (hd : lAt c.Defs r = some d) (hT : F_retraceref20_To c r = some T) (hr : (F_retraceref20_rests c r a).getD false = true) :
    ∃ b y, F_retraceref20_Settle c a = some b ∧ InR c r d T b ∧ lAt c.Ins b = some y ∧ (y.Op = 1 ∨ y.Op = 24) := by
  obtain ⟨b, hb, _⟩ := ok_Settle c h.ins a
  unfold F_retraceref20_rests F_retraceref20_rests_J1 at hr
  simp only [hb, hd, hT, Option.bind_some] at hr
  by_cases h1 : d.Entry ≤ b
  · by_cases h2 : b < T
    · rw [dct h1, dct h2] at hr
      cases hy : lAt c.Ins b with
      | none => rw [hy] at hr; cases hr
      | some y =>
        rw [hy] at hr
        refine ⟨b, y, hb, ⟨hd, hT, h1, h2⟩, hy, ?_⟩
        cases e : (y.Op == 1) with
        | true => exact .inl (eq_of_beq e)
        | false =>
          simp only [cond_true, Option.bind_some, e, cond_false, Option.getD_some] at hr
          exact .inr (eq_of_beq hr)
    · rw [dct h1, dcf h2] at hr; cases hr
  · rw [dcf h1] at hr; cases hr
end Go.Ab
end

section
/- The reference's looks at processes, plainly. -/
namespace Go.Ab.Pi
open Go.Ab
set_option linter.unusedVariables false
def routine (c : T_api_Code) (a : Int) : Int := if 0 ≤ a ∧ a < c.Ins.length then c.Defs.zipIdx.foldl (fun s x => if x.1.Entry ≤ a then (x.2 : Int) else s) (-1) else -1
theorem routine_eq (c : T_api_Code) (hd : c.Defs.length ≤ 40) (a : Int) : F_retraceref20_Routine c a = some (routine c a) := by
  unfold F_retraceref20_Routine routine
  by_cases h : 0 ≤ a ∧ a < c.Ins.length
  · rw [if_pos h]
    refine Loop_fold c.Defs.zipIdx (by rw [List.length_zipIdx]; omega) (fun s x => if x.1.Entry ≤ a then (x.2 : Int) else s) id (fun s i => (s, i)) (fun _ _ => True) (fun k hk s _ => ?_) (fun _ _ _ _ => trivial) (fun s _ => ?_) (-1) trivial
    · rw [List.length_zipIdx] at hk
      show F_retraceref20_Routine_L3 c a s (k : Int) = _
      unfold F_retraceref20_Routine_L3 F_retraceref20_Routine_J1 F_retraceref20_Routine_J2
      rw [dct (by omega), dct h.1, dct h.2, lAt_lt hk]
      simp only [cond_true, Option.bind_some, List.getElem_zipIdx, Nat.zero_add]
      by_cases e : c.Defs[k].Entry ≤ a
      · rw [dct e, if_pos e]; rfl
      · rw [dcf e, if_neg e]; rfl
    · show F_retraceref20_Routine_L3 c a s ((c.Defs.zipIdx).length : Int) = _
      unfold F_retraceref20_Routine_L3 F_retraceref20_Routine_J1
      rw [List.length_zipIdx, dcf (by omega)]; rfl
  · rw [if_neg h]
    refine Loop_inr ?_
    show F_retraceref20_Routine_L3 c a (-1) 0 = _
    unfold F_retraceref20_Routine_L3 F_retraceref20_Routine_J1
    by_cases h0 : (0 : Int) ≤ a
    · rw [dct h0, dcf (show ¬ a < (c.Ins.length : Int) by omega)]
      cases decide ((0 : Int) < (c.Defs.length : Int)) <;> rfl
    · rw [dcf h0]
      cases decide ((0 : Int) < (c.Defs.length : Int)) <;> rfl
theorem routine_rng {c : T_api_Code} {a : Int} (h : 0 ≤ routine c a) : 0 ≤ a ∧ a < c.Ins.length := by
  unfold routine at h
  split at h
  · assumption
  · omega
def isB (c : T_api_Code) (d a o : Int) : Bool := (routine c a == d) && (decide (0 ≤ d) && (match lAt c.Ins a with | some x => x.Op == o | none => false))
theorem is_eq (c : T_api_Code) (hd : c.Defs.length ≤ 40) (d a o : Int) : F_retraceref22_is c d a o = some (isB c d a o) := by
  unfold F_retraceref22_is isB F_retraceref22_is_J1
  rw [routine_eq c hd]
  simp only [Option.bind_some]
  by_cases h : routine c a = d
  · rw [beqt h]
    by_cases h0 : 0 ≤ d
    · obtain ⟨p, q⟩ := routine_rng (c := c) (a := a) (by omega)
      obtain ⟨y, ey, _⟩ := lAt_ok p q
      rw [dct h0, ey]
      rfl
    · rw [dcf h0]; rfl
  · rw [beqf h]; rfl
def restsB (c : T_api_Code) (d a : Int) : Bool := isB c d a 1 || isB c d a 24
theorem rests_eq (c : T_api_Code) (hd : c.Defs.length ≤ 40) (d a : Int) : F_retraceref22_Rests c d a = some (restsB c d a) := by
  unfold F_retraceref22_Rests restsB F_retraceref22_Rests_J1
  rw [is_eq c hd, is_eq c hd]
  simp only [Option.bind_some]
  cases isB c d a 1 <;> rfl
def chansN (c : T_api_Code) : Int := c.Chans.foldl (fun s x => if 0 < x.Size then w64 (s + x.Size) else w64 (s + 1)) 0
theorem chans_eq (c : T_api_Code) (hc : c.Chans.length ≤ 80) : F_retraceref22_Chans c = some (chansN c) := by
  unfold F_retraceref22_Chans chansN
  refine Loop_fold c.Chans (by omega) (fun s x => if 0 < x.Size then w64 (s + x.Size) else w64 (s + 1)) id (fun s i => (s, i)) (fun _ _ => True) (fun k hk s _ => ?_) (fun _ _ _ _ => trivial) (fun s _ => ?_) 0 trivial
  · show F_retraceref22_Chans_L2 c s (k : Int) = _
    unfold F_retraceref22_Chans_L2 F_retraceref22_Chans_J1
    rw [dct (by omega), lAt_lt hk]
    simp only [cond_true, Option.bind_some]
    by_cases e : 0 < c.Chans[k].Size
    · rw [dct e, if_pos e]; rfl
    · rw [dcf e, if_neg e]; rfl
  · show F_retraceref22_Chans_L2 c s (c.Chans.length : Int) = _
    unfold F_retraceref22_Chans_L2
    rw [dcf (by omega)]; rfl
def fromB (a b : Int) : Bool := decide (0 ≤ a) && decide (a < b)
theorem from_eq (a b : Int) : F_retraceref22_from a b = some (fromB a b) := by
  unfold F_retraceref22_from F_retraceref22_from_J1 fromB
  cases decide (0 ≤ a) <;> rfl
def altB (c : T_api_Code) (p : T_api_Proc) (a : T_api_Alt) : Bool :=
  restsB c p.Def a.Goto && (if a.Kind = 1 then fromB a.Chan (chansN c) && (fromB a.Slot p.Vars.length && a.Val == 0) else if a.Kind = 2 then fromB a.Chan (chansN c) && a.Slot == 0
    else if a.Kind = 3 then fromB a.Val 1099511627777 && (a.Chan == 0 && a.Slot == 0) else false)
theorem alt_eq (c : T_api_Code) (h : CSmall c) (p : T_api_Proc) (a : T_api_Alt) : F_retraceref22_alt c p a = some (altB c p a) := by
  unfold F_retraceref22_alt altB F_retraceref22_alt_J1 F_retraceref22_alt_J2 F_retraceref22_alt_J3
  rw [rests_eq c h.defs, chans_eq c h.chans]
  simp only [Option.bind_some, from_eq]
  cases restsB c p.Def a.Goto with
  | false => rfl
  | true =>
  simp only [Bool.not_true, cond_false, Bool.true_and]
  by_cases k1 : a.Kind = 1
  · rw [beqt k1, if_pos k1, cond_true]
    cases fromB a.Chan (chansN c) <;> cases fromB a.Slot p.Vars.length <;> rfl
  · rw [beqf k1, if_neg k1, cond_false]
    by_cases k2 : a.Kind = 2
    · rw [beqt k2, if_pos k2, cond_true]
      cases fromB a.Chan (chansN c) <;> rfl
    · rw [beqf k2, if_neg k2, cond_false]
      by_cases k3 : a.Kind = 3
      · rw [beqt k3, if_pos k3, cond_true]
        cases fromB a.Val 1099511627777 <;> cases (a.Chan == 0) <;> rfl
      · rw [beqf k3, if_neg k3, cond_false]
def modeB (c : T_api_Code) (p : T_api_Proc) : Bool :=
  if p.Mode = 0 ∨ p.Mode = 6 then isB c p.Def p.At 1 else if p.Mode = 1 then restsB c p.Def p.At && fromB p.Chan (chansN c)
  else if p.Mode = 2 then restsB c p.Def p.At && (fromB p.Chan (chansN c) && fromB p.Slot p.Vars.length) else if p.Mode = 4 then restsB c p.Def p.At && fromB p.Until 1099511627777
  else if p.Mode = 5 then p.At == 0 else if p.Mode = 3 then p.Alts.all (altB c p) && isB c p.Def p.At 1 else false
theorem j5_eq (c : T_api_Code) (h : CSmall c) (p : T_api_Proc) (hl : p.Alts.length ≤ 40) (x : Bool) (hx : x = true ↔ p.Mode = 0 ∨ p.Mode = 6) : F_retraceref22_Is_J5 c p x = some (modeB c p) := by
  unfold F_retraceref22_Is_J5 modeB F_retraceref22_Is_J6 F_retraceref22_Is_J7 F_retraceref22_Is_J8
  cases x with
  | true => rw [if_pos (hx.1 rfl), cond_true, is_eq c h.defs]; rfl
  | false =>
  rw [if_neg (fun e => by have := hx.2 e; cases this), cond_false, rests_eq c h.defs, chans_eq c h.chans]
  simp only [Option.bind_some, from_eq]
  by_cases m1 : p.Mode = 1
  · rw [beqt m1, if_pos m1, cond_true]
    cases restsB c p.Def p.At <;> rfl
  rw [beqf m1, if_neg m1, cond_false]
  by_cases m2 : p.Mode = 2
  · rw [beqt m2, if_pos m2, cond_true]
    cases restsB c p.Def p.At <;> cases fromB p.Chan (chansN c) <;> rfl
  rw [beqf m2, if_neg m2, cond_false]
  by_cases m4 : p.Mode = 4
  · rw [beqt m4, if_pos m4, cond_true]
    cases restsB c p.Def p.At <;> rfl
  rw [beqf m4, if_neg m4, cond_false]
  by_cases m5 : p.Mode = 5
  · rw [beqt m5, if_pos m5, cond_true]
  rw [beqf m5, if_neg m5, cond_false]
  by_cases m3 : p.Mode = 3
  · rw [beqt m3, if_pos m3, cond_true]
    have e := Loop_all (step := fun s : Int => F_retraceref22_Is_L9 c p s) p.Alts (by omega) (altB c p) (isB c p.Def p.At 1) false (fun k hk => ?_) ?_
    · rw [e]
      cases p.Alts.all (altB c p) <;> rfl
    · show F_retraceref22_Is_L9 c p (k : Int) = _
      unfold F_retraceref22_Is_L9
      rw [dct (by omega), lAt_lt hk]
      simp only [cond_true, Option.bind_some, alt_eq c h]
      cases altB c p p.Alts[k] <;> rfl
    · show F_retraceref22_Is_L9 c p (p.Alts.length : Int) = _
      unfold F_retraceref22_Is_L9
      rw [dcf (by omega), is_eq c h.defs]; rfl
  · rw [beqf m3, if_neg m3, cond_false]
def shapeB (p : T_api_Proc) : Bool :=
  ((p.Mode == 1 || p.Mode == 2) || p.Chan == 0) && ((p.Mode == 1 || p.Val == 0) && ((p.Mode == 2 || p.Slot == 0) && ((p.Mode == 4 || p.Until == 0) &&
    (((p.Mode == 1 || p.Mode == 2) || (p.Mode == 3 || p.Since == 0)) && (p.Mode == 3 || !decide (0 < (p.Alts.length : Int)))))))
theorem j4_eq (c : T_api_Code) (h : CSmall c) (p : T_api_Proc) (hl : p.Alts.length ≤ 40) (x : Bool) : F_retraceref22_Is_J4 c p x = some (!x && modeB c p) := by
  unfold F_retraceref22_Is_J4
  cases x with
  | true => rfl
  | false =>
  rw [cond_false]
  by_cases m0 : p.Mode = 0
  · rw [beqt m0, cond_true, j5_eq c h p hl _ (by simp [m0])]; rfl
  · rw [beqf m0, cond_false, j5_eq c h p hl _ (by simp [m0])]; rfl
theorem j3_eq (c : T_api_Code) (h : CSmall c) (p : T_api_Proc) (hl : p.Alts.length ≤ 40) (w x : Bool) :
    F_retraceref22_Is_J3 c p w x = some (!x && ((w || (p.Mode == 3 || p.Since == 0)) && ((p.Mode == 3 || !decide (0 < (p.Alts.length : Int))) && modeB c p))) := by
  unfold F_retraceref22_Is_J3
  simp only [j4_eq c h p hl, bne]
  cases x <;> cases w <;> cases (p.Mode == 3) <;> cases (p.Since == 0) <;> cases decide (0 < (p.Alts.length : Int)) <;> rfl
theorem j2_eq (c : T_api_Code) (h : CSmall c) (p : T_api_Proc) (hl : p.Alts.length ≤ 40) (w : Bool) (hw : w = (p.Mode == 1 || p.Mode == 2)) : F_retraceref22_Is_J2 c p w = some (shapeB p && modeB c p) := by
  unfold F_retraceref22_Is_J2 shapeB
  simp only [j3_eq c h p hl, bne]
  subst hw
  generalize ((p.Mode == 1 || p.Mode == 2) || (p.Mode == 3 || p.Since == 0)) = r1
  generalize (p.Mode == 3 || !decide (0 < (p.Alts.length : Int))) = r2
  generalize modeB c p = r3
  cases (p.Mode == 1) <;> cases (p.Mode == 2) <;> cases (p.Mode == 4) <;> cases (p.Chan == 0) <;> cases (p.Val == 0) <;> cases (p.Slot == 0) <;> cases (p.Until == 0) <;> simp [Bool.and_assoc]
def isPB (c : T_api_Code) (p : T_api_Proc) : Bool :=
  fromB p.Def c.Defs.length && ((match lAt c.Defs p.Def with | some d => (p.Vars.length : Int) == d.Vars | none => false) && (fromB p.Fuel 1048577 && (fromB p.Since 1099511627777 && (shapeB p && modeB c p))))
theorem isP_eq (c : T_api_Code) (h : CSmall c) (p : T_api_Proc) (hl : p.Alts.length ≤ 40) : F_retraceref22_Is c p = some (isPB c p) := by
  have j1 : ∀ x, F_retraceref22_Is_J1 c p x = some (!x && (shapeB p && modeB c p)) := fun x => by
    unfold F_retraceref22_Is_J1
    cases x with
    | true => rfl
    | false =>
    rw [cond_false]
    cases e : (p.Mode == 1) with
    | true => rw [cond_true, j2_eq c h p hl _ (by rw [e]; rfl)]; rfl
    | false => rw [cond_false, j2_eq c h p hl _ (by rw [e]; rfl)]; rfl
  unfold F_retraceref22_Is isPB
  simp only [from_eq, j1, Option.bind_some]
  cases e : fromB p.Def c.Defs.length with
  | false => rfl
  | true =>
  have : 0 ≤ p.Def ∧ p.Def < c.Defs.length := by simpa [fromB] using e
  obtain ⟨y, ey, _⟩ := lAt_ok (l := c.Defs) this.1 this.2
  rw [ey]
  simp only [Bool.not_true, cond_false, Option.bind_some, bne, Bool.true_and]
  cases ((p.Vars.length : Int) == y.Vars) <;> cases fromB p.Fuel 1048577 <;> cases fromB p.Since 1099511627777 <;> rfl

theorem isB_at {c : T_api_Code} {d a o : Int} (h : isB c d a o = true) : 0 ≤ a ∧ a < c.Ins.length ∧ 0 ≤ d ∧ routine c a = d ∧ ∃ x, lAt c.Ins a = some x ∧ x.Op = o := by
  unfold isB at h
  simp only [Bool.and_eq_true, beq_iff_eq, decide_eq_true_eq] at h
  obtain ⟨h1, h2, h3⟩ := h
  obtain ⟨p, q⟩ := routine_rng (c := c) (a := a) (by omega)
  refine ⟨p, q, h2, h1, ?_⟩
  split at h3
  · rename_i x e; exact ⟨x, e, by simpa using h3⟩
  · cases h3
end Go.Ab.Pi
end

section
/- When code may be, by the reference alone. -/
namespace Go.Ab
set_option linter.unusedVariables false
theorem chk_eq (c : T_api_Code) (h : CSmall c) : ∃ a e, F_retraceref20_Check c = some [a, e] ∧ (e = 0 → a = 0 ∧ COk c) := by
  have hd40 := h.defs
  unfold F_retraceref20_Check
  obtain ⟨b, hb, hgb⟩ := ok_tables c h
  rw [hb]
  simp only [Option.bind_some]
  cases b with
  | false => exact ⟨0, 3, by rw [Bool.not_false, cond_true, grd2, grd1], fun h => by cases h⟩
  | true =>
  have hg := hgb rfl
  simp only [Bool.not_true, cond_false]
  have fin : ∀ r m : Int, ¬ r < c.Defs.length → (∀ q : Int, 0 ≤ q → q < r → MayAll c q) →
      ∃ a e, Loop (fun s : (Int × Int) => F_retraceref20_Check_L4 c s.1 s.2) (m, r) = some [a, e] ∧ (e = 0 → a = 0 ∧ ∀ r : Int, 0 ≤ r → r < c.Defs.length → MayAll c r) := by
    intro r m hr hall
    have hall' : ∀ q : Int, 0 ≤ q → q < c.Defs.length → MayAll c q := fun q a b => hall q a (by omega)
    obtain ⟨a, e, q1, q2, q3⟩ := flows_eq c h hg hall' _ 0 m 0 0 0 (by omega) (by omega) (Nat.le_refl _)
    cases hm : (m != c.Stmts) with
    | true =>
      refine ⟨0, 3, Loop_inr ?_, fun h => by cases h⟩
      show F_retraceref20_Check_L4 c m r = _
      unfold F_retraceref20_Check_L4
      rw [dcf hr, hm, grd2, grd1]; rfl
    | false =>
      refine ⟨a, e, Loop_inr ?_, fun he => ⟨q3 he, hall'⟩⟩
      show F_retraceref20_Check_L4 c m r = _
      unfold F_retraceref20_Check_L4
      rw [dcf hr, hm]
      simp only [cond_false, q2]; rfl
  have key : ∀ (n : Nat) (r m : Int), 0 ≤ r → r ≤ c.Defs.length → (c.Defs.length - r).toNat ≤ n → 0 ≤ m → m ≤ 200 * r → (∀ q : Int, 0 ≤ q → q < r → MayAll c q) →
      ∃ a e, Loop (fun s : (Int × Int) => F_retraceref20_Check_L4 c s.1 s.2) (m, r) = some [a, e] ∧ (e = 0 → a = 0 ∧ ∀ r : Int, 0 ≤ r → r < c.Defs.length → MayAll c r) := by
    intro n
    induction n with
    | zero => intro r m h0 h1 h2 h3 h4 hall; exact fin r m (by omega) hall
    | succ n ih =>
      intro r m h0 h1 h2 h3 h4 hall
      by_cases hr : r < c.Defs.length
      · obtain ⟨d, hd, _⟩ := lAt_ok h0 hr
        obtain ⟨T, hT, hTl⟩ := ok_To c h hg r h0 hr
        have hE := hg d (lAt_mem hd)
        have hi := h.ins
        have e1 : w64 (r + 1) = r + 1 := w64i (by omega) (by omega)
        have s2 : F_retraceref20_Check_L4 c m r = Loop (fun s : (Int × Int) => F_retraceref20_Check_L2 c r s.1 s.2) (m, d.Entry) := by
          unfold F_retraceref20_Check_L4
          rw [dct hr]
          simp only [cond_true, hd, Option.bind_some]
        rcases inner_eq c h hg r T d hd hT m (200 * r + 200) (by omega) _ d.Entry m (Int.le_refl _) (Nat.le_refl _) h3 (by omega) with ⟨q, g1, g2⟩ | ⟨m', f', t', v', g1, g2, b1, b2, g3⟩
        · exact ⟨q, 15, Loop_inr (s2.trans g2), fun h => by cases h⟩
        · rw [e1] at g1 g2
          obtain ⟨a, e, q2, q3⟩ := ih (r + 1) m' (by omega) (by omega) (by omega) b1 (by omega) fun q a b => by
            by_cases hq : q = r
            · subst hq
              intro d' T' p' hd' hT' h1 h2
              rw [hd] at hd'; cases hd'
              rw [hT] at hT'; cases hT'
              exact g3 p' h1 h2
            · exact hall q a (by omega)
          exact ⟨a, e, (Loop_inl (s2.trans g2)).trans q2, q3⟩
      · exact fin r m hr hall
  obtain ⟨a, e, q2, q3⟩ := key _ 0 0 (by omega) (by omega) (Nat.le_refl _) (by omega) (by omega) (fun q (a : 0 ≤ q) (b : q < 0) => by omega)
  exact ⟨a, e, q2, fun he => ⟨(q3 he).1, hg, hb, (q3 he).2⟩⟩
theorem right_chk {c : T_api_Code} (h : CSmall c) : ∃ b, F_retraceref20_Right c = some b ∧ (b = true → COk c) := by
  obtain ⟨a, e, q2, q3⟩ := chk_eq c h
  unfold F_retraceref20_Right
  rw [q2]
  simp only [Option.bind_some]
  rw [grd_t ⟨rfl, rfl⟩]
  refine ⟨_, rfl, fun hb => ?_⟩
  have : [a, e] = [0, 0] := by simpa using hb
  simp only [List.cons.injEq, and_true] at this
  obtain ⟨rfl, rfl⟩ := this
  exact (q3 rfl).2
end Go.Ab
end

section
/- run.Step's parts, plainly. -/
namespace Go.Ab
set_option linter.unusedVariables false

def SOK (s : T_stack_Stack_int_) : Prop := s.most = 12 ∧ s.l.length ≤ 12
theorem Clone_eq {l : List Int} (h : l.length ≤ 12) : F_slices_Clone_int_int l = some l := by
  unfold F_slices_Clone_int_int
  rw [grd_t (by simp; omega)]
  rfl
theorem Take_ok {n : Int} {s : T_stack_Stack_int_} (h0 : 0 ≤ n) (h1 : n ≤ 9223372036854775807) (hs : SOK s) : ∃ l b s', F_stack_Stack_int_Take n s = some (l, b, s') ∧ SOK s' ∧ l.length ≤ 12 ∧ (b = true → (l.length : Int) = n) := by
  obtain ⟨hm, hl⟩ := hs
  unfold F_stack_Stack_int_Take F_stack_Stack_int_Len
  simp only [Option.bind_some]
  rw [dcf (by omega), w64i (n := (s.l.length : Int) - n) (by omega) (by omega), cond_false]
  unfold F_stack_Stack_int_Take_J1 F_stack_Stack_int_Take_J2
  rw [w64i (n := (s.l.length : Int) - n) (by omega) (by omega)]
  by_cases h2 : (s.l.length : Int) - n < 0
  · rw [dct h2, cond_true]
    exact ⟨_, _, _, rfl, ⟨hm, hl⟩, by simp, by simp⟩
  · rw [dcf h2, cond_false]
    have hc : (lCut s.l 0 ((s.l.length : Int) - n)).length ≤ 12 := by unfold lCut; simp; omega
    by_cases h3 : (s.l.length : Int) - n < s.l.length
    · rw [dct h3, cond_true, grd_t ⟨by omega, h3, Int.le_refl _⟩, Clone_eq (by unfold lCut; simp; omega)]
      simp only [Option.bind_some]
      rw [grd_t ⟨by omega, by omega, trivial⟩]
      exact ⟨_, _, _, rfl, ⟨hm, hc⟩, by unfold lCut; simp; omega, fun _ => by unfold lCut; simp; omega⟩
    · rw [dcf h3, cond_false, grd_t ⟨by omega, by omega, Int.le_refl _⟩, Clone_eq (by simp)]
      simp only [Option.bind_some]
      rw [grd_t ⟨by omega, by omega, trivial⟩]
      exact ⟨_, _, _, rfl, ⟨hm, hc⟩, by simp, fun _ => by simp; omega⟩
theorem take_ok {s : T_stack_Stack_int_} (hs : SOK s) : ∃ n s', F_run_runner_take s = some (n, s') ∧ SOK s' := by
  obtain ⟨l, b, s', e, h1, h2, h3⟩ := Take_ok (n := 1) (by decide) (by decide) hs
  unfold F_run_runner_take F_stack_Stack_int_Pop
  rw [e]
  cases b with
  | false => exact ⟨_, _, rfl, h1⟩
  | true =>
    have hl := h3 rfl
    obtain ⟨x, ex, _⟩ := lAt_ok (l := l) (i := 0) (by omega) (by omega)
    simp only [Option.bind_some, Bool.not_true, cond_false, ex]
    exact ⟨_, _, rfl, h1⟩
theorem Push_ok {s : T_stack_Stack_int_} (hs : SOK s) (n : Int) : ∃ b s', F_stack_Stack_int_Push n s = some (b, s') ∧ SOK s' := by
  obtain ⟨hm, hl⟩ := hs
  unfold F_stack_Stack_int_Push F_stack_Stack_int_Room
  simp only [Option.bind_some]
  rw [hm, w64i (n := 12 - (s.l.length : Int)) (by omega) (by omega)]
  by_cases h : (12 : Int) - s.l.length = 0
  · have : ((12 : Int) - s.l.length == 0) = true := by simp [h]
    rw [this]
    exact ⟨_, _, rfl, hm, hl⟩
  · have : ((12 : Int) - s.l.length == 0) = false := by simp [h]
    rw [this, cond_false, grd_t (by simp; omega)]
    exact ⟨_, _, rfl, rfl, by simp; omega⟩
theorem fault_eq (n : Int) : F_run_runner_fault n = some (11, 0, 0, 0, 0, 0, n, true, [], []) := rfl
theorem Apply_ok (op a b : Int) : ∃ n f, F_arith_Apply op a b = some (n, f) := by
  have hc : ∃ y, F_arith_compared a b = some y := by
    unfold F_arith_compared F_arith_compared_J1
    have hb : ∀ x, ∃ y, F_arith_bit x = some y := fun x => by cases x <;> exact ⟨_, rfl⟩
    cases a != 0 <;> cases b != 0 <;> cases a == 0 <;> cases a == b <;> cases a != b <;> cases decide (a < b) <;> cases decide (a ≤ b) <;> cases decide (b < a) <;> cases decide (b ≤ a) <;> exact ⟨_, rfl⟩
  obtain ⟨y, hy⟩ := hc
  have hj : ∀ q, ∃ n f, F_arith_Apply_J1 op a b q = some (n, f) := fun q => by
    unfold F_arith_Apply_J1
    cases q with
    | false => rw [hy]; exact ⟨_, _, rfl⟩
    | true =>
      by_cases h : b = 0
      · have : (b == 0) = true := by simp [h]
        rw [this]; exact ⟨_, _, rfl⟩
      · have : (b == 0) = false := by simp [h]
        rw [this, grd_t h, grd_t h]
        cases (op == 8) <;> exact ⟨_, _, rfl⟩
  unfold F_arith_Apply
  cases (op == 3) with
  | true => exact ⟨_, _, rfl⟩
  | false =>
  cases (op == 5) with
  | true => exact ⟨_, _, rfl⟩
  | false =>
  cases (op == 6) with
  | true => exact ⟨_, _, rfl⟩
  | false =>
  cases (op == 7) with
  | true => exact ⟨_, _, rfl⟩
  | false =>
  cases (op == 8) with
  | true => exact hj true
  | false => exact hj (op == 9)
theorem Wide_ok (op : Int) : ∃ n, F_arith_Wide op = some n ∧ 0 ≤ n ∧ n ≤ 2 := by
  unfold F_arith_Wide F_arith_Wide_J1 F_arith_Wide_J2
  cases (op == 3) <;> cases (op == 4) <;> cases decide (5 ≤ op) <;> cases decide (op ≤ 17) <;> exact ⟨_, rfl, by decide, by decide⟩
end Go.Ab
end

section
/- run.Step's parts, plainly: what does not end a statement. -/
namespace Go.Ab
set_option linter.unusedVariables false

abbrev E11 := Int × Int × Int × Int × Int × Int × Int × Bool × T_stack_Stack_int_ × (List Int) × (List T_api_Alt)
/-- A fault. -/
def Flt (k a f : Int) (ov : Bool) (l : List T_api_Alt) : Prop := k = 11 ∧ a = 0 ∧ ¬ f = 0 ∧ ov = true ∧ l = []
/-- One goes on, or a fault. -/
def Got (G : List T_api_Alt → Prop) (k a f : Int) (ov : Bool) (l : List T_api_Alt) : Prop := (f = 0 ∧ ov = false ∧ G l) ∨ Flt k a f ov l
def R11 (G : List T_api_Alt → Prop) (y : E11) : Prop := SOK y.2.2.2.2.2.2.2.2.1 ∧ Got G y.1 y.2.1 y.2.2.2.2.2.2.1 y.2.2.2.2.2.2.2.1 y.2.2.2.2.2.2.2.2.2.2
theorem flt_fault {n : Int} (h : ¬ n = 0) : Flt 11 0 n true [] := ⟨rfl, rfl, h, rfl, rfl⟩

theorem w01 : w64 (0 + 1) = 1 := by rw [w64i (by omega) (by omega)]; rfl
theorem lay_ok {G : List T_api_Alt → Prop} (k a c v s d : Int) {st : T_stack_Stack_int_} (args : List Int) {l : List T_api_Alt} (n : Int) (hs : SOK st) (hg : G l) :
    ∃ y, F_run_runner_lay k a c v s d 0 false st args l [n] = some y ∧ R11 G y := by
  unfold F_run_runner_lay
  refine Loop_ex (fun s : (Int × Int × Int × Int × Int × Int × Int × Int × Bool × Int × (List Int) × (List Int) × (List T_api_Alt)) => (s.1 = 0 ∨ s.1 = 1) ∧ SOK ⟨s.2.2.2.2.2.2.2.2.2.2.1, s.2.2.2.2.2.2.2.2.2.1⟩ ∧ Got G s.2.1 s.2.2.1 s.2.2.2.2.2.2.2.1 s.2.2.2.2.2.2.2.2.1 s.2.2.2.2.2.2.2.2.2.2.2.2 ∧ (s.1 = 0 → s.2.2.2.2.2.2.2.1 = 0 ∧ s.2.2.2.2.2.2.2.2.1 = false ∧ G s.2.2.2.2.2.2.2.2.2.2.2.2)) (fun s => (2 - s.1).toNat) (R11 G) ?_ _ ⟨.inl rfl, hs, .inl ⟨rfl, rfl, hg⟩, fun _ => ⟨rfl, rfl, hg⟩⟩
  rintro ⟨i, k, a, c, v, s, d, f, ov, most, sl, args, l⟩ ⟨h1, h2, h3, h4⟩
  dsimp only at h1 h2 h3 h4 ⊢
  unfold F_run_runner_lay_L2
  rcases h1 with rfl | rfl
  · obtain ⟨rfl, rfl, hg⟩ := h4 rfl
    obtain ⟨b, s', e, hs'⟩ := Push_ok h2 n
    refine .inl ?_
    rw [dct (by simp), cond_true, show lAt [n] 0 = some n from rfl]
    simp only [Option.bind_some, e]
    cases b with
    | true => exact ⟨_, rfl, ⟨.inr w01, hs', .inl ⟨rfl, rfl, hg⟩, fun h => absurd (w01.symm.trans h) (by decide)⟩, by show (2 - w64 (0 + 1)).toNat < _; rw [w01]; decide⟩
    | false => exact ⟨_, rfl, ⟨.inr w01, hs', .inr (flt_fault (n := 2) (by decide)), fun h => absurd (w01.symm.trans h) (by decide)⟩, by show (2 - w64 (0 + 1)).toNat < _; rw [w01]; decide⟩
  · refine .inr ?_
    rw [dcf (by simp), cond_false]
    exact ⟨_, rfl, h2, h3⟩
theorem reckon_ok {G : List T_api_Alt → Prop} (op k a c v s d : Int) {st : T_stack_Stack_int_} (args : List Int) {l : List T_api_Alt} (hs : SOK st) (hg : G l) :
    ∃ y, F_run_runner_reckon op k a c v s d 0 false st args l = some y ∧ R11 G y := by
  obtain ⟨w, ew, w0, w1⟩ := Wide_ok op
  obtain ⟨t, b, s', et, hs', ht, _⟩ := Take_ok w0 (by omega) hs
  unfold F_run_runner_reckon
  rw [ew, Option.bind_some, et, Option.bind_some, grd_t (by simp; omega)]
  obtain ⟨x, ex, _⟩ := lAt_ok (l := t ++ [0, 0]) (i := 0) (by omega) (by simp; omega)
  obtain ⟨y, ey, _⟩ := lAt_ok (l := t ++ [0, 0]) (i := 1) (by omega) (by simp; omega)
  obtain ⟨n, f, ea⟩ := Apply_ok op x y
  rw [ex, Option.bind_some, ey, Option.bind_some, ea, Option.bind_some]
  by_cases hf : f = 0
  · have : (f != 0) = false := by simp [bne, hf]
    obtain ⟨q, eq, hq⟩ := lay_ok (G := G) k a c v s d args n hs' hg
    simp only [this, cond_false, eq, Option.bind_some]
    exact ⟨_, rfl, hq⟩
  · have : (f != 0) = true := by simp [bne, hf]
    simp only [this, cond_true, fault_eq, Option.bind_some]
    exact ⟨_, rfl, hs', .inr (flt_fault hf)⟩
theorem channel_ok {G : List T_api_Alt → Prop} (x : T_api_Ins) (k a c v s d : Int) {st : T_stack_Stack_int_} (args : List Int) {l : List T_api_Alt} (hs : SOK st) (hg : G l) :
    ∃ y, F_run_runner_channel x k a c v s d 0 false st args l = some y ∧ R11 G y := by
  unfold F_run_runner_channel
  cases (x.B == 0) with
  | true =>
    obtain ⟨q, eq, hq⟩ := lay_ok (G := G) k a c v s d args x.A hs hg
    simp only [cond_true, eq, Option.bind_some]
    exact ⟨_, rfl, hq⟩
  | false =>
    obtain ⟨n, s', et, hs'⟩ := take_ok hs
    have hj : ∀ b, ∃ y, F_run_runner_channel_J1 x k a c v s d 0 false args l (n, s') b = some y ∧ R11 G y := fun b => by
      unfold F_run_runner_channel_J1
      cases b with
      | true =>
        simp only [cond_true, fault_eq, Option.bind_some]
        exact ⟨_, rfl, hs', .inr (flt_fault (n := 4) (by decide))⟩
      | false =>
        obtain ⟨q, eq, hq⟩ := lay_ok (G := G) k a c v s d args (w64 (x.A + n)) hs' hg
        simp only [cond_false, eq, Option.bind_some]
        exact ⟨_, rfl, hq⟩
    rw [cond_false, et, Option.bind_some]
    cases decide (n < 0) with
    | true => exact hj true
    | false => exact hj _
theorem slot_ok (n : Int) (l : List Int) : ∃ v, F_run_runner_slot n l = some v := by
  unfold F_run_runner_slot F_run_runner_slot_J1
  by_cases h : n < 0
  · rw [dct h]; exact ⟨_, rfl⟩
  · rw [dcf h, cond_false]
    by_cases h2 : (l.length : Int) ≤ n
    · rw [dct h2]; exact ⟨_, rfl⟩
    · obtain ⟨x, ex, _⟩ := lAt_ok (l := l) (i := n) (by omega) (by omega)
      rw [dcf h2, cond_false, ex]; exact ⟨_, rfl⟩
theorem Chans_ok (c : T_api_Code) (h : c.Chans.length ≤ 80) : ∃ n, F_proc_Chans c = some n := by
  unfold F_proc_Chans
  obtain ⟨r, e, _⟩ := Loop_ex (step := fun s : (Int × Int) => F_proc_Chans_L1 c s.1 s.2) (fun s => 0 ≤ s.2 ∧ s.2 ≤ c.Chans.length) (fun s => (c.Chans.length - s.2).toNat) (fun _ => True) (by
    rintro ⟨n, i⟩ ⟨h1, h2⟩
    dsimp only at h1 h2 ⊢
    unfold F_proc_Chans_L1
    by_cases hi : i < c.Chans.length
    · obtain ⟨x, ex, _⟩ := lAt_ok (l := c.Chans) (i := i) h1 hi
      rw [dct hi, cond_true, ex, Option.bind_some, w64i (n := i + 1) (by omega) (by omega)]
      exact .inl ⟨_, rfl, ⟨by dsimp only; omega, by dsimp only; omega⟩, by dsimp only; omega⟩
    · rw [dcf hi]; exact .inr ⟨_, rfl, trivial⟩) (0, 0) ⟨by decide, by dsimp only; omega⟩
  exact ⟨r, e⟩
/-- Whether there is no such channel. -/
theorem none_ok (code : T_api_Code) (hc : code.Chans.length ≤ 80) (n k a c v s d f : Int) (ov : Bool) (args : List Int) (l : List T_api_Alt) :
    F_run_runner_none n code.Ins code.Defs code.Chans code.Main code.Stmts k a c v s d f ov args l = some (false, k, a, c, v, s, d, f, ov, args, l) ∨ F_run_runner_none n code.Ins code.Defs code.Chans code.Main code.Stmts k a c v s d f ov args l = some (true, 11, 0, 0, 0, 0, 0, 4, true, [], []) := by
  have hj : ∀ b, F_run_runner_none_J1 k a c v s d f ov args l b = some (false, k, a, c, v, s, d, f, ov, args, l) ∨ F_run_runner_none_J1 k a c v s d f ov args l b = some (true, 11, 0, 0, 0, 0, 0, 4, true, [], []) := fun b => by
    cases b
    · exact .inr rfl
    · exact .inl rfl
  unfold F_run_runner_none
  obtain ⟨m, em⟩ := Chans_ok code hc
  cases decide (0 ≤ n) with
  | false => exact hj false
  | true => rw [cond_true, em, Option.bind_some]; exact hj _
end Go.Ab
end

section
/- run.Step's parts, plainly: a choice's cases; an instruction that does not end a statement. -/
namespace Go.Ab
set_option linter.unusedVariables false

/-- Alternatives, so many at most, each of a kind that is, and going to such a place. -/
def GA (P : Int → Prop) (m : Nat) (l : List T_api_Alt) : Prop := l.length ≤ m ∧ ∀ a ∈ l, 1 ≤ a.Kind ∧ a.Kind ≤ 4 ∧ P a.Goto
theorem GA.up {P : Int → Prop} {m : Nat} {l : List T_api_Alt} (h : GA P m l) : GA P (m + 1) l := ⟨Nat.le_succ_of_le h.1, h.2⟩
theorem GA.add {P : Int → Prop} {m : Nat} {l : List T_api_Alt} (h : GA P m l) {a : T_api_Alt} (ha : 1 ≤ a.Kind ∧ a.Kind ≤ 4 ∧ P a.Goto) : GA P (m + 1) (l ++ [a]) := by
  refine ⟨by have := h.1; simp; omega, fun b hb => ?_⟩
  rcases List.mem_append.1 hb with hb | hb
  · exact h.2 b hb
  · rw [List.mem_singleton.1 hb]; exact ha
abbrev E10 := Int × Int × Int × Int × Int × Int × Int × Bool × (List Int) × (List T_api_Alt)
def R10 (G : List T_api_Alt → Prop) (y : E10) : Prop := Got G y.1 y.2.1 y.2.2.2.2.2.2.1 y.2.2.2.2.2.2.2.1 y.2.2.2.2.2.2.2.2.2
theorem alt_ok {P : Int → Prop} {m : Nat} (code : T_api_Code) (hi : code.Ins.length ≤ 150) (hc : code.Chans.length ≤ 80) (kd ch val slot to : Int) (hk : 1 ≤ kd ∧ kd ≤ 4) (hp : ∀ b, F_retraceref20_Settle code to = some b → P b) (hm : m ≤ 1000)
    (k a c v s d : Int) (args : List Int) {l : List T_api_Alt} (hg : GA P m l) :
    ∃ y, F_run_runner_alt ⟨kd, ch, val, slot, 0⟩ to code.Ins code.Defs code.Chans code.Main code.Stmts k a c v s d 0 false args l = some y ∧ R10 (GA P (m + 1)) y := by
  obtain ⟨b, hb, _⟩ := ok_Settle code hi to
  have hs : F_code_Settle code to = some b := by rw [settle_eq code hi]; exact hb
  have j0 : ∃ y, F_run_runner_alt_J1 ⟨kd, ch, val, slot, 0⟩ to code.Ins code.Defs code.Chans code.Main code.Stmts false k a c v s d 0 false args l = some y ∧ R10 (GA P (m + 1)) y := by
    unfold F_run_runner_alt_J1
    rw [cond_false, show (⟨code.Ins, code.Defs, code.Chans, code.Main, code.Stmts⟩ : T_api_Code) = code from rfl, hs, Option.bind_some, grd_t (by have := hg.1; simp; omega)]
    exact ⟨_, rfl, .inl ⟨rfl, rfl, hg.add ⟨hk.1, hk.2, hp b hb⟩⟩⟩
  have jn : ∃ y, ((F_run_runner_none ch code.Ins code.Defs code.Chans code.Main code.Stmts k a c v s d 0 false args l).bind fun y41 => F_run_runner_alt_J1 ⟨kd, ch, val, slot, 0⟩ to code.Ins code.Defs code.Chans code.Main code.Stmts y41.1 y41.2.1 y41.2.2.1 y41.2.2.2.1 y41.2.2.2.2.1 y41.2.2.2.2.2.1 y41.2.2.2.2.2.2.1 y41.2.2.2.2.2.2.2.1 y41.2.2.2.2.2.2.2.2.1 y41.2.2.2.2.2.2.2.2.2.1 y41.2.2.2.2.2.2.2.2.2.2) = some y ∧ R10 (GA P (m + 1)) y := by
    rcases none_ok code hc ch k a c v s d 0 false args l with e | e
    · rw [e]; exact j0
    · rw [e]; exact ⟨_, rfl, .inr (flt_fault (n := 4) (by decide))⟩
  unfold F_run_runner_alt
  cases (kd == 1) with
  | true => exact jn
  | false =>
    cases (kd == 2) with
    | true => exact jn
    | false => exact j0
/-- What an instruction that does not end a statement comes to. -/
def R13 (P : Int → Prop) (m : Nat) (x : T_api_Ins) (at_ : Int) (y : Bool × Int × E11) : Prop :=
  y.1 = true ∧ R11 (GA P m) y.2.2 ∧ (y.2.1 = at_ ∨ y.2.1 = x.A ∧ (x.Op = 6 ∨ x.Op = 7 ∨ x.Op = 8)) ∧ (x.Op = 6 → y.2.1 = x.A) ∧ ¬ x.Op = 24 ∧ ¬ x.Op = 1
def endB (op : Int) : Prop := op = 1 ∨ op = 24 ∨ op = 4 ∨ op = 12 ∨ op = 10 ∨ op = 11 ∨ op = 13 ∨ op = 15 ∨ op = 14 ∨ op = 16 ∨ op = 17 ∨ op = 18 ∨ op = 23
theorem reckons_ok {P : Int → Prop} {m : Nat} (code : T_api_Code) (hi : code.Ins.length ≤ 150) (hc : code.Chans.length ≤ 80) (x : T_api_Ins) (hx : 1 ≤ x.Op ∧ x.Op ≤ 25) (h19 : x.Op = 19 → ∀ b, F_retraceref20_Settle code x.B = some b → P b) (h20 : x.Op = 20 ∨ x.Op = 21 ∨ x.Op = 22 → ∀ b, F_retraceref20_Settle code x.A = some b → P b) (hm : m ≤ 1000)
    (vars : List Int) (at_ k a c v s d : Int) {st : T_stack_Stack_int_} (args : List Int) {l : List T_api_Alt} (hs : SOK st) (hg : GA P m l) :
    (∃ y, F_run_runner_reckons x code.Ins code.Defs code.Chans code.Main code.Stmts vars at_ k a c v s d 0 false st args l = some y ∧ R13 P (m + 1) x at_ y) ∨
    (endB x.Op ∧ F_run_runner_reckons x code.Ins code.Defs code.Chans code.Main code.Stmts vars at_ k a c v s d 0 false st args l = some (false, at_, k, a, c, v, s, d, 0, false, st, args, l)) := by
  have hu := hg.up
  unfold F_run_runner_reckons
  cases e2 : (x.Op == 2) with
  | true =>
    obtain ⟨q, eq, hq⟩ := lay_ok (G := GA P (m + 1)) k a c v s d args x.A hs hu
    rw [cond_true, eq]
    exact .inl ⟨_, rfl, rfl, hq, .inl rfl, fun h => (by rw [h] at e2; cases e2), fun h => (by rw [h] at e2; cases e2), fun h => (by rw [h] at e2; cases e2)⟩
  | false =>
  rw [cond_false]
  cases e3 : (x.Op == 3) with
  | true =>
    obtain ⟨n, en⟩ := slot_ok x.A vars
    obtain ⟨q, eq, hq⟩ := lay_ok (G := GA P (m + 1)) k a c v s d args n hs hu
    rw [cond_true, en, Option.bind_some, eq]
    exact .inl ⟨_, rfl, rfl, hq, .inl rfl, fun h => (by rw [h] at e3; cases e3), fun h => (by rw [h] at e3; cases e3), fun h => (by rw [h] at e3; cases e3)⟩
  | false =>
  rw [cond_false]
  cases e5 : (x.Op == 5) with
  | true =>
    obtain ⟨q, eq, hq⟩ := reckon_ok (G := GA P (m + 1)) x.A k a c v s d args hs hu
    rw [cond_true, eq]
    exact .inl ⟨_, rfl, rfl, hq, .inl rfl, fun h => (by rw [h] at e5; cases e5), fun h => (by rw [h] at e5; cases e5), fun h => (by rw [h] at e5; cases e5)⟩
  | false =>
  rw [cond_false]
  cases e6 : (x.Op == 6) with
  | true =>
    have h6 : x.Op = 6 := eq_of_beq e6
    rw [cond_true]
    exact .inl ⟨_, rfl, rfl, ⟨hs, .inl ⟨rfl, rfl, hu⟩⟩, .inr ⟨rfl, .inl h6⟩, fun _ => rfl, fun h => (by rw [h] at e6; cases e6), fun h => (by rw [h] at e6; cases e6)⟩
  | false =>
  rw [cond_false]
  cases e7 : (x.Op == 7) with
  | true =>
    have h7 : x.Op = 7 := eq_of_beq e7
    obtain ⟨n, s', et, hs'⟩ := take_ok hs
    rw [cond_true, et, Option.bind_some]
    have hj : F_run_runner_jump x.A (n == 0) at_ = some (cond (n == 0) x.A at_) := by unfold F_run_runner_jump; cases (n == 0) <;> rfl
    rw [hj]
    refine .inl ⟨_, rfl, rfl, ⟨hs', .inl ⟨rfl, rfl, hu⟩⟩, ?_, fun h => (by rw [h] at e7; cases e7), fun h => (by rw [h] at e7; cases e7), fun h => (by rw [h] at e7; cases e7)⟩
    show cond (n == 0) x.A at_ = at_ ∨ _
    cases (n == 0) with
    | true => exact .inr ⟨rfl, .inr (.inl h7)⟩
    | false => exact .inl rfl
  | false =>
  rw [cond_false]
  cases e8 : (x.Op == 8) with
  | true =>
    have h8 : x.Op = 8 := eq_of_beq e8
    obtain ⟨n, s', et, hs'⟩ := take_ok hs
    rw [cond_true, et, Option.bind_some]
    have hj : F_run_runner_jump x.A (n != 0) at_ = some (cond (n != 0) x.A at_) := by unfold F_run_runner_jump; cases (n != 0) <;> rfl
    rw [hj]
    refine .inl ⟨_, rfl, rfl, ⟨hs', .inl ⟨rfl, rfl, hu⟩⟩, ?_, fun h => (by rw [h] at e8; cases e8), fun h => (by rw [h] at e8; cases e8), fun h => (by rw [h] at e8; cases e8)⟩
    show cond (n != 0) x.A at_ = at_ ∨ _
    cases (n != 0) with
    | true => exact .inr ⟨rfl, .inr (.inr h8)⟩
    | false => exact .inl rfl
  | false =>
  rw [cond_false]
  cases e9 : (x.Op == 9) with
  | true =>
    obtain ⟨q, eq, hq⟩ := channel_ok (G := GA P (m + 1)) x k a c v s d args hs hu
    rw [cond_true, eq]
    exact .inl ⟨_, rfl, rfl, hq, .inl rfl, fun h => (by rw [h] at e9; cases e9), fun h => (by rw [h] at e9; cases e9), fun h => (by rw [h] at e9; cases e9)⟩
  | false =>
  rw [cond_false]
  cases e25 : (x.Op == 25) with
  | true =>
    rw [cond_true]
    exact .inl ⟨_, rfl, rfl, ⟨hs, .inl ⟨rfl, rfl, hu⟩⟩, .inl rfl, fun h => (by rw [h] at e25; cases e25), fun h => (by rw [h] at e25; cases e25), fun h => (by rw [h] at e25; cases e25)⟩
  | false =>
  rw [cond_false]
  cases e19 : (x.Op == 19) with
  | true =>
    obtain ⟨n, s', et, hs'⟩ := take_ok hs
    obtain ⟨q, eq, hq⟩ := alt_ok code hi hc 1 n 0 x.A x.B (by decide) (h19 (eq_of_beq e19)) hm k a c v s d args hg
    rw [cond_true, et, Option.bind_some, eq]
    exact .inl ⟨_, rfl, rfl, ⟨hs', hq⟩, .inl rfl, fun h => (by rw [h] at e19; cases e19), fun h => (by rw [h] at e19; cases e19), fun h => (by rw [h] at e19; cases e19)⟩
  | false =>
  rw [cond_false]
  cases e20 : (x.Op == 20) with
  | true =>
    obtain ⟨n, s', et, hs'⟩ := take_ok hs
    obtain ⟨n2, s2, et2, hs2⟩ := take_ok hs'
    obtain ⟨q, eq, hq⟩ := alt_ok code hi hc 2 n2 n 0 x.A (by decide) (h20 (.inl (eq_of_beq e20))) hm k a c v s d args hg
    rw [cond_true, et, Option.bind_some, et2, Option.bind_some, eq]
    exact .inl ⟨_, rfl, rfl, ⟨hs2, hq⟩, .inl rfl, fun h => (by rw [h] at e20; cases e20), fun h => (by rw [h] at e20; cases e20), fun h => (by rw [h] at e20; cases e20)⟩
  | false =>
  rw [cond_false]
  cases e21 : (x.Op == 21) with
  | true =>
    obtain ⟨n, s', et, hs'⟩ := take_ok hs
    obtain ⟨q, eq, hq⟩ := alt_ok code hi hc 3 0 n 0 x.A (by decide) (h20 (.inr (.inl (eq_of_beq e21)))) hm k a c v s d args hg
    rw [cond_true, et, Option.bind_some, eq]
    exact .inl ⟨_, rfl, rfl, ⟨hs', hq⟩, .inl rfl, fun h => (by rw [h] at e21; cases e21), fun h => (by rw [h] at e21; cases e21), fun h => (by rw [h] at e21; cases e21)⟩
  | false =>
  rw [cond_false]
  cases e22 : (x.Op == 22) with
  | true =>
    obtain ⟨q, eq, hq⟩ := alt_ok code hi hc 4 0 0 0 x.A (by decide) (h20 (.inr (.inr (eq_of_beq e22)))) hm k a c v s d args hg
    rw [cond_true, eq]
    exact .inl ⟨_, rfl, rfl, ⟨hs, hq⟩, .inl rfl, fun h => (by rw [h] at e22; cases e22), fun h => (by rw [h] at e22; cases e22), fun h => (by rw [h] at e22; cases e22)⟩
  | false =>
    refine .inr ⟨?_, rfl⟩
    simp only [beq_eq_false_iff_ne, ne_eq] at *
    unfold endB
    omega
end Go.Ab
end

section
/- run.Step's parts, plainly: what ends a statement. -/
namespace Go.Ab
set_option linter.unusedVariables false
set_option linter.unusedSimpArgs false

/-- The effect that a statement comes to. -/
def Fin_ (P : Int → Prop) (k a f : Int) (ov : Bool) (l : List T_api_Alt) : Prop :=
  ov = true ∧ ((1 ≤ k ∧ k ≤ 8 ∧ f = 0 ∧ l = [] ∧ P a) ∨ (k = 9 ∧ a = 0 ∧ f = 0 ∧ l = []) ∨ (k = 10 ∧ a = 0 ∧ f = 0 ∧ ∃ m, m ≤ 1000 ∧ GA P m l) ∨ (k = 11 ∧ a = 0 ∧ ¬ f = 0 ∧ l = []))
abbrev SumE := E11 ⊕ (Int × Int × Int × Bool × T_stack_Stack_int_ × (List T_api_Alt) × (List Int)) ⊕ (Int × Int × Bool × (List T_api_Alt))
def FinS (P : Int → Prop) (z : SumE) : Prop :=
  match z with
  | .inl y => Fin_ P y.1 y.2.1 y.2.2.2.2.2.2.1 y.2.2.2.2.2.2.2.1 y.2.2.2.2.2.2.2.2.2.2
  | .inr (.inl y) => Fin_ P y.1 y.2.1 0 y.2.2.2.1 y.2.2.2.2.2.1
  | .inr (.inr y) => Fin_ P y.1 y.2.1 0 y.2.2.1 y.2.2.2
theorem fin_flt {P : Int → Prop} {f : Int} (h : ¬ f = 0) : Fin_ P 11 0 f true [] := ⟨rfl, .inr (.inr (.inr ⟨rfl, rfl, h, rfl⟩))⟩
theorem fin_go {P : Int → Prop} {k a : Int} (h1 : 1 ≤ k) (h8 : k ≤ 8) (h : P a) : Fin_ P k a 0 true [] := ⟨rfl, .inl ⟨h1, h8, rfl, rfl, h⟩⟩
def actB (op : Int) : Prop := op = 4 ∨ op = 12 ∨ op = 10 ∨ op = 11 ∨ op = 13 ∨ op = 15 ∨ op = 14 ∨ op = 16 ∨ op = 17
theorem ends_ok {P : Int → Prop} {m : Nat} (code : T_api_Code) (hi : code.Ins.length ≤ 150) (hc : code.Chans.length ≤ 80) (x : T_api_Ins) (here : Int) (hx : endB x.Op) (h1 : x.Op = 1 ∨ x.Op = 24 → P here) (ha : actB x.Op → ∀ b, F_retraceref20_Settle code (w64 (here + 1)) = some b → P b) (hB : x.Op = 14 → 0 ≤ x.B ∧ x.B ≤ 9223372036854775807) (hm : m ≤ 1000)
    (k a c v s d : Int) {st : T_stack_Stack_int_} (args : List Int) {l : List T_api_Alt} (hs : SOK st) (hg : GA P m l) :
    ∃ z, F_run_runner_ends x here code.Ins code.Defs code.Chans code.Main code.Stmts k a c v s d 0 false st args l = some z ∧ FinS P z := by
  obtain ⟨b, hb, _⟩ := ok_Settle code hi (w64 (here + 1))
  have hS : F_code_Settle (⟨code.Ins, code.Defs, code.Chans, code.Main, code.Stmts⟩ : T_api_Code) (w64 (here + 1)) = some b := by
    rw [show (⟨code.Ins, code.Defs, code.Chans, code.Main, code.Stmts⟩ : T_api_Code) = code from rfl, settle_eq code hi]; exact hb
  obtain ⟨n, s', et, hs'⟩ := take_ok hs
  obtain ⟨n2, s2, et2, hs2⟩ := take_ok hs'
  obtain ⟨op, A, B⟩ := x
  dsimp only at h1 ha hB hx
  unfold F_run_runner_ends F_run_runner_ends_J1 F_run_runner_ends_J2 F_run_runner_ends_J4 F_run_runner_ends_J3 F_run_runner_ends_J5 F_run_runner_end
  rw [hS, Option.bind_some]
  rcases hx with rfl | rfl | rfl | rfl | rfl | rfl | rfl | rfl | rfl | rfl | rfl | rfl | rfl
  · exact ⟨_, rfl, fin_go (k := 1) (by decide) (by decide) (h1 (.inl rfl))⟩
  · exact ⟨_, rfl, fin_go (k := 1) (by decide) (by decide) (h1 (.inr rfl))⟩
  · have hP := ha (.inl rfl) b hb
    simp only [Int.reduceBEq, cond_true, cond_false, et, Option.bind_some]
    exact ⟨_, rfl, fin_go (k := 2) (by decide) (by decide) hP⟩
  · have hP := ha (.inr (.inl rfl)) b hb
    simp only [Int.reduceBEq, cond_true, cond_false, et, Option.bind_some]
    exact ⟨_, rfl, fin_go (k := 3) (by decide) (by decide) hP⟩
  · have hP := ha (.inr (.inr (.inl rfl))) b hb
    simp only [Int.reduceBEq, cond_true, cond_false, et, et2, Option.bind_some]
    rcases none_ok code hc n2 k a n2 n s d 0 false args [] with e | e
    · rw [e]; exact ⟨_, rfl, fin_go (k := 4) (by decide) (by decide) hP⟩
    · rw [e]; exact ⟨_, rfl, fin_flt (f := 4) (by decide)⟩
  · have hP := ha (.inr (.inr (.inr (.inl rfl)))) b hb
    simp only [Int.reduceBEq, cond_true, cond_false, et, et2, Option.bind_some]
    rcases none_ok code hc n k a n v A d 0 false args [] with e | e
    · rw [e]; exact ⟨_, rfl, fin_go (k := 5) (by decide) (by decide) hP⟩
    · rw [e]; exact ⟨_, rfl, fin_flt (f := 4) (by decide)⟩
  · have hP := ha (.inr (.inr (.inr (.inr (.inl rfl))))) b hb
    simp only [Int.reduceBEq, cond_true, cond_false, et, Option.bind_some]
    exact ⟨_, rfl, fin_go (k := 6) (by decide) (by decide) hP⟩
  · have hP := ha (.inr (.inr (.inr (.inr (.inr (.inl rfl)))))) b hb
    simp only [Int.reduceBEq, cond_true, cond_false, et, Option.bind_some]
    exact ⟨_, rfl, fin_go (k := 8) (by decide) (by decide) hP⟩
  · have hP := ha (.inr (.inr (.inr (.inr (.inr (.inr (.inl rfl))))))) b hb
    obtain ⟨t, q, s3, e3, _⟩ := Take_ok (hB rfl).1 (hB rfl).2 hs
    simp only [Int.reduceBEq, cond_true, cond_false, e3, Option.bind_some]
    exact ⟨_, rfl, fin_go (k := 7) (by decide) (by decide) hP⟩
  · have hP := ha (.inr (.inr (.inr (.inr (.inr (.inr (.inr (.inl rfl)))))))) b hb
    simp only [Int.reduceBEq, cond_true, cond_false, et, Option.bind_some]
    cases (n == 0) with
    | true => exact ⟨_, rfl, fin_flt (f := 6) (by decide)⟩
    | false => exact ⟨_, rfl, fin_go (k := 1) (by decide) (by decide) hP⟩
  · have hP := ha (.inr (.inr (.inr (.inr (.inr (.inr (.inr (.inr rfl)))))))) b hb
    exact ⟨_, rfl, fin_go (k := 1) (by decide) (by decide) hP⟩
  · exact ⟨_, rfl, rfl, .inr (.inl ⟨rfl, rfl, rfl, rfl⟩)⟩
  · exact ⟨_, rfl, rfl, .inr (.inr (.inl ⟨rfl, rfl, rfl, m, hm, hg⟩))⟩
end Go.Ab
end

section
/- run.Step, plainly: in code that may be a statement comes to an effect. -/
namespace Go.Ab
set_option linter.unusedVariables false
set_option linter.unusedSimpArgs false

theorem right_op {x : T_api_Ins} (h : F_retraceref16_Right x = some true) : (1 ≤ x.Op ∧ x.Op ≤ 25) ∧ (x.Op = 14 → 0 ≤ x.B) := by
  have j1 : ∀ q, F_retraceref16_Right_J1 x q = some true → q = false ∧ (x.Op = 14 → 0 ≤ x.B) := by
    intro q hq
    unfold F_retraceref16_Right_J1 at hq
    cases q with
    | true => cases hq
    | false =>
      refine ⟨rfl, fun h14 => ?_⟩
      rw [h14] at hq
      by_cases hb : x.B < 0
      · rw [dct hb] at hq; cases hq
      · omega
  unfold F_retraceref16_Right at h
  obtain ⟨y, hy, h⟩ := Option.bind_eq_some_iff.1 h
  by_cases h1 : x.Op < 1
  · rw [dct h1, cond_true] at h; have := (j1 _ h).1; cases this
  rw [dcf h1, cond_false] at h
  by_cases h2 : 25 < x.Op
  · rw [dct h2, cond_true] at h; have := (j1 _ h).1; cases this
  rw [dcf h2, cond_false] at h
  refine ⟨by omega, ?_⟩
  cases e1 : (y == 0) <;> cases e2 : (x.A != 0) <;> cases e3 : decide (y < 2) <;> rw [e1] at h <;> (try rw [e2] at h) <;> (try rw [e3] at h) <;> simp only [cond_true, cond_false] at h <;> exact (j1 _ h).2
theorem act_acts {op : Int} (h : actB op) : actsB op = true := by
  rcases h with rfl | rfl | rfl | rfl | rfl | rfl | rfl | rfl | rfl <;> rfl
theorem tgt_A {x : T_api_Ins} (h : x.Op = 6 ∨ x.Op = 7 ∨ x.Op = 8 ∨ x.Op = 20 ∨ x.Op = 21 ∨ x.Op = 22) : tgt x = (x.A, true) := by
  obtain ⟨op, a, b⟩ := x
  dsimp only at h
  rcases h with rfl | rfl | rfl | rfl | rfl | rfl <;> rfl
theorem tgt_B {x : T_api_Ins} (h : x.Op = 19) : tgt x = (x.B, true) := by
  obtain ⟨op, a, b⟩ := x
  replace h : op = 19 := h
  subst h; rfl
/-- Where one rests. -/
def Rst (c : T_api_Code) (r : Int) (d : T_api_Def) (T b : Int) : Prop := InR c r d T b ∧ ∃ y, lAt c.Ins b = some y ∧ (y.Op = 1 ∨ y.Op = 24)
section
variable {c : T_api_Code} {r T p : Int} {d : T_api_Def} {x : T_api_Ins}
theorem rst_of (h : CSmall c) (hp : InR c r d T p) {a : Int} (hr : (F_retraceref20_rests c r a).getD false = true) : ∀ b, F_retraceref20_Settle c a = some b → Rst c r d T b := by
  intro b hb
  obtain ⟨b', y, g1, g2, g3, g4⟩ := rests_get h hp.hd hp.hT hr
  rw [hb] at g1; cases g1
  exact ⟨g2, y, g3, g4⟩
theorem tail_act (h : CSmall c) (hp : InR c r d T p) (ht : tailB c r p T d x = true) (ha : actB x.Op) : ∀ b, F_retraceref20_Settle c (w64 (p + 1)) = some b → Rst c r d T b := by
  unfold tailB at ht
  rw [act_acts ha] at ht
  simp only [Bool.and_eq_true, Bool.not_true, Bool.false_or] at ht
  exact rst_of h hp ht.2.1
theorem tail_cho (h : CSmall c) (hp : InR c r d T p) (ht : tailB c r p T d x = true) (ha : chosB x.Op = true) : ∀ b, F_retraceref20_Settle c (tgt x).1 = some b → Rst c r d T b := by
  unfold tailB at ht
  rw [ha] at ht
  simp only [Bool.and_eq_true, Bool.not_true, Bool.false_or] at ht
  exact rst_of h hp ht.2.2
theorem tail_tgt (hp : InR c r d T p) (ht : tailB c r p T d x = true) (ha : x.Op = 6 ∨ x.Op = 7 ∨ x.Op = 8) : InR c r d T x.A ∧ (p < x.A ∨ ∃ z, lAt c.Ins x.A = some z ∧ z.Op = 1) := by
  have e : tgt x = (x.A, true) := tgt_A (by omega)
  unfold tailB at ht
  rw [e] at ht
  simp only [Bool.and_eq_true, Bool.not_true, Bool.false_or, decide_eq_true_eq, Bool.or_eq_true] at ht
  refine ⟨⟨hp.hd, hp.hT, ht.1.1, ht.1.2.1⟩, ?_⟩
  rcases ht.1.2.2 with h | h
  · exact .inl h
  · cases hz : lAt c.Ins x.A with
    | none => rw [hz] at h; cases h
    | some z => rw [hz] at h; exact .inr ⟨z, rfl, eq_of_beq h⟩
end
section
variable {c : T_api_Code} {r T : Int} {d : T_api_Def}
abbrev S14 := Int × Int × Int × Int × Int × Int × Int × Int × Int × Bool × Int × (List Int) × (List Int) × (List T_api_Alt)
/-- Where one is, in the midst of a statement that began at a place. -/
def Way (c : T_api_Code) (r : Int) (d : T_api_Def) (T b i q : Int) : Prop := InR c r d T q ∧ i < c.Ins.length ∧ (b + 1 + i ≤ q ∨ ∃ z, lAt c.Ins q = some z ∧ z.Op = 1)
def IvS (c : T_api_Code) (r : Int) (d : T_api_Def) (T b : Int) (s : S14) : Prop :=
  0 ≤ s.1 ∧ s.1 ≤ c.Ins.length ∧
  ((s.2.2.2.2.2.2.2.2.1 = 0 ∧ s.2.2.2.2.2.2.2.2.2.1 = false ∧ SOK ⟨s.2.2.2.2.2.2.2.2.2.2.2.1, s.2.2.2.2.2.2.2.2.2.2.1⟩ ∧ GA (Rst c r d T) s.1.toNat s.2.2.2.2.2.2.2.2.2.2.2.2.2 ∧ Way c r d T b s.1 s.2.1) ∨
  Fin_ (Rst c r d T) s.2.2.1 s.2.2.2.1 s.2.2.2.2.2.2.2.2.1 s.2.2.2.2.2.2.2.2.2.1 s.2.2.2.2.2.2.2.2.2.2.2.2.2)
def msS (c : T_api_Code) (s : S14) : Nat := cond s.2.2.2.2.2.2.2.2.2.1 0 (c.Ins.length + 1 - s.1).toNat
def EfOK (c : T_api_Code) (r : Int) (d : T_api_Def) (T st : Int) (e : T_api_Effect) : Prop := Fin_ (Rst c r d T) e.Kind e.At e.Fault true e.Alts ∧ e.Stmt = st
theorem step_over (h : CSmall c) (p : T_api_Proc) (y : T_api_Ins) {b i q k a c0 v s dd f most : Int} {sl args : List Int} {l : List T_api_Alt} (hf : Fin_ (Rst c r d T) k a f true l) :
    ∃ e, F_run_Step_L5 c p y i q k a c0 v s dd f true most sl args l = some (.inr e) ∧ EfOK c r d T y.A e := by
  unfold F_run_Step_L5 F_run_Step_J4 F_run_Step_J2
  cases decide (i < c.Ins.length) <;> exact ⟨_, rfl, hf, rfl⟩
theorem step_on (h : CSmall c) (ok : COk c) (hB : ∀ x ∈ c.Ins, x.B ≤ 9223372036854775807) (p : T_api_Proc) (y : T_api_Ins) {b i q k a c0 v s dd most : Int} {sl args : List Int} {l : List T_api_Alt} (hb : 0 ≤ b) (hi : 0 ≤ i) (hs : SOK ⟨sl, most⟩) (hg : GA (Rst c r d T) i.toNat l) (hw : Way c r d T b i q) :
    ∃ z, F_run_Step_L5 c p y i q k a c0 v s dd 0 false most sl args l = some (.inl z) ∧ IvS c r d T b z ∧ msS c z < (c.Ins.length + 1 - i).toNat := by
  obtain ⟨hp, hil, hq⟩ := hw
  have h150 := h.ins
  obtain ⟨hr0, hr1, hE0, hTl⟩ := To_le h ok hp.hd hp.hT
  have hlo := hp.lo
  have hhi := hp.hi
  obtain ⟨x, hx, hrx, hex, htl⟩ := ok.at h hp
  obtain ⟨hop, h14⟩ := right_op hrx
  have ei : w64 (i + 1) = i + 1 := w64i (by omega) (by omega)
  have eq1 : w64 (q + 1) = q + 1 := w64i (by omega) (by omega)
  have eT : w64 (T - 1) = T - 1 := w64i (by omega) (by omega)
  have hnat : (i + 1).toNat = i.toNat + 1 := by omega
  unfold F_run_Step_L5 F_run_Step_J4 F_run_Step_J3
  rw [dct hil, dcf (show ¬ q < 0 by omega), dcf (show ¬ (c.Ins.length : Int) ≤ q by omega)]
  simp only [cond_true, cond_false, hx, Option.bind_some, eq1, ei]
  rcases reckons_ok (P := Rst c r d T) (m := i.toNat) c h150 h.chans x hop (fun e => by have := tail_cho h hp htl (x := x) (by rw [e]; rfl); rwa [tgt_B e] at this) (fun e => by have := tail_cho h hp htl (x := x) (by rcases e with e | e | e <;> rw [e] <;> rfl); rwa [tgt_A (by omega)] at this) (by omega)
    p.Vars (q + 1) k a c0 v s dd args hs hg with ⟨z, ez, g1, g2, g3, g4, g5⟩ | ⟨hend, ez⟩
  · obtain ⟨zb, z1, z2, z3, z4, z5, z6, z7, z8, z9, z10, z11, z12⟩ := z
    replace g1 : zb = true := g1
    subst g1
    rw [ez]
    refine ⟨_, rfl, ⟨by show 0 ≤ i + 1; omega, by show i + 1 ≤ _; omega, ?_⟩, ?_⟩
    · rcases g2.2 with ⟨f1, f2, f3⟩ | hF
      · refine .inl ⟨f1, f2, g2.1, by show GA _ (i + 1).toNat _; rw [hnat]; exact f3, ?_⟩
        have h24 : (x.Op == 24) = false := by simp [g5.1]
        rw [hex, eT] at h24
        have hqT : ¬ q = T - 1 := fun e => by rw [e] at h24; simp at h24
        have hbq : b + 1 + i ≤ q := by
          rcases hq with hq | ⟨z, hz, hz1⟩
          · exact hq
          · rw [hx] at hz; cases hz; exact absurd hz1 g5.2
        rcases g3 with g3 | ⟨g3, g3b⟩
        · replace g3 : z1 = q + 1 := g3
          subst g3
          exact ⟨(⟨hp.hd, hp.hT, by omega, by omega⟩ : InR c r d T (q + 1)), by show i + 1 < _; omega, .inl (by show b + 1 + (i + 1) ≤ q + 1; omega)⟩
        · replace g3 : z1 = x.A := g3
          subst g3
          obtain ⟨t1, t2⟩ := tail_tgt hp htl g3b
          refine ⟨t1, by show i + 1 < _; omega, ?_⟩
          rcases t2 with t2 | t2
          · exact .inl (by show b + 1 + (i + 1) ≤ x.A; omega)
          · exact .inr t2
      · obtain ⟨f1, f2, f3, f4, f5⟩ := hF
        refine .inr ⟨f4, .inr (.inr (.inr ⟨f1, f2, f3, f5⟩))⟩
    · show cond z9 0 (c.Ins.length + 1 - (i + 1)).toNat < _
      cases z9 with
      | true => show 0 < _; omega
      | false => show (_ : Int).toNat < _; omega
  · obtain ⟨w, ew, hw⟩ := ends_ok (P := Rst c r d T) c h.ins h.chans x q hend (fun e => ⟨hp, x, hx, e⟩) (fun e => tail_act h hp htl e) (fun e => ⟨h14 e, hB x (lAt_mem hx)⟩) (by omega) k a c0 v s dd args hs hg
    rw [ez]
    simp only [Option.bind_some, Bool.not_false, cond_true, hx, ew]
    rcases w with w | w | w
    · refine ⟨_, rfl, ⟨by show 0 ≤ i + 1; omega, by show i + 1 ≤ _; omega, .inr hw⟩, ?_⟩
      show cond w.2.2.2.2.2.2.2.1 0 _ < _
      rw [hw.1]; show 0 < _; omega
    · refine ⟨_, rfl, ⟨by show 0 ≤ i + 1; omega, by show i + 1 ≤ _; omega, .inr hw⟩, ?_⟩
      show cond w.2.2.2.1 0 _ < _
      rw [hw.1]; show 0 < _; omega
    · refine ⟨_, rfl, ⟨by show 0 ≤ i + 1; omega, by show i + 1 ≤ _; omega, .inr hw⟩, ?_⟩
      show cond w.2.2.1 0 _ < _
      rw [hw.1]; show 0 < _; omega
end
end Go.Ab
end

section
/- RunRests, plainly: the whole statement. -/
namespace Go.Ab
set_option linter.unusedVariables false
set_option linter.unusedSimpArgs false

theorem mark_A {c : T_api_Code} {r T p m : Int} {d : T_api_Def} (hd : lAt c.Defs r = some d) (hT : F_retraceref20_To c r = some T) {x : T_api_Ins} (hx : lAt c.Ins p = some x) (h1 : x.Op = 1) (hm : F_retraceref20_may c r p m = some true) : x.A = m := by
  by_cases hA : x.A = m
  · exact hA
  · exfalso
    have e1 : (x.Op == 1) = true := by simp [h1]
    have e2 : (x.Op != 1) = false := by simp [h1]
    have e3 : (x.A != m) = true := by simp [hA]
    have j1 : ∀ b, F_retraceref20_may_J1 c r p m x d T b = some false := fun b => by
      unfold F_retraceref20_may_J1 F_retraceref20_may_J2
      rw [e1, e2, e3]
      cases b <;> cases (p == d.Entry) <;> rfl
    obtain ⟨rb, hrb, _⟩ := ok_IRight x
    unfold F_retraceref20_may at hm
    simp only [hx, hd, hT, hrb, Option.bind_some, j1] at hm
    refine absurd hm (?_ : NT _)
    repeat' (first | exact NT.f | refine NT.c ?_ ?_)
section
variable {c : T_api_Code} {T : Int} {d : T_api_Def}
theorem step_eff (h : CSmall c) (ok : COk c) (hB : ∀ x ∈ c.Ins, x.B ≤ 9223372036854775807) (p : T_api_Proc) (hm : p.Mode = 0) {r : Int} (hp : InR c r d T p.At) {x : T_api_Ins} (hx : lAt c.Ins p.At = some x) (h1 : x.Op = 1) :
    F_retraceref20_Stmt c p.At = some x.A ∧ ∃ e, F_run_Step c p = some e ∧ EfOK c r d T x.A e := by
  have h150 := h.ins
  obtain ⟨hr0, hr1, hE0, hTl⟩ := To_le h ok hp.hd hp.hT
  have hlo := hp.lo
  have hhi := hp.hi
  obtain ⟨x', hx', hrx, hex, htl⟩ := ok.at h hp
  rw [hx] at hx'; cases hx'
  obtain ⟨m, hm0, hmay⟩ := ok.may r hr0 hr1 d T p.At hp.hd hp.hT hlo hhi
  have hA := mark_A hp.hd hp.hT hx h1 hmay
  have e2 : (x.Op != 1) = false := by simp [h1]
  have hst : F_code_Stmt c p.At = some x.A := by
    unfold F_code_Stmt F_code_Stmt_J1
    rw [dcf (show ¬ p.At < 0 by omega), dcf (show ¬ (c.Ins.length : Int) ≤ p.At by omega), hx]
    simp only [cond_false, Option.bind_some, e2]
  refine ⟨by rw [← stmt_eq]; exact hst, ?_⟩
  have eq1 : w64 (p.At + 1) = p.At + 1 := w64i (by omega) (by omega)
  have eT : w64 (T - 1) = T - 1 := w64i (by omega) (by omega)
  have h24 : (x.Op == 24) = false := by simp [h1]
  rw [hex, eT] at h24
  have hqT : ¬ p.At = T - 1 := fun e => by rw [e] at h24; simp at h24
  unfold F_run_Step
  rw [show (p.Mode != 0) = false by simp [hm], cond_false, hst, Option.bind_some, dcf (show ¬ x.A < 0 by omega)]
  unfold F_run_Step_J1 F_stack_New_int
  rw [cond_false, Option.bind_some, hx, Option.bind_some, eq1]
  refine Loop_ex (IvS c r d T p.At) (msS c) (EfOK c r d T x.A) ?_ _ ⟨Int.le_refl 0, by show (0 : Int) ≤ _; omega, .inl ⟨rfl, rfl, ⟨rfl, Nat.zero_le 12⟩, ⟨Nat.zero_le 0, fun a ha => by cases ha⟩, (⟨hp.hd, hp.hT, by omega, by omega⟩ : InR c r d T (p.At + 1)), by show (0 : Int) < _; omega, .inl (by show p.At + 1 + 0 ≤ p.At + 1; omega)⟩⟩
  rintro ⟨i, q, k, a, c0, v, s, dd, f, ov, most, sl, args, l⟩ ⟨g1, g2, g3 | g3⟩
  · obtain ⟨f0, ov0, hs, hg, hw⟩ := g3
    replace f0 : f = 0 := f0
    replace ov0 : ov = false := ov0
    subst f0 ov0
    exact .inl (step_on h ok hB p x (by omega) g1 hs hg hw)
  · have ov0 : ov = true := g3.1
    subst ov0
    exact .inr (step_over h p x (b := 0) g3)
end
theorem large24 (c : T_api_Code) (p : T_api_Proc) : ∃ b, F_retracelaw24_large c p = some b ∧ (b = false → c.Ins.length ≤ 150 ∧ c.Defs.length ≤ 40 ∧ c.Chans.length ≤ 80 ∧ p.Alts.length ≤ 40) := by
  unfold F_retracelaw24_large F_retracelaw24_large_J1
  by_cases h1 : (150 : Int) < c.Ins.length
  · rw [dct h1]; exact ⟨_, rfl, fun h => by cases h⟩
  rw [dcf h1, cond_false]
  by_cases h2 : (40 : Int) < c.Defs.length
  · rw [dct h2]; exact ⟨_, rfl, fun h => by cases h⟩
  rw [dcf h2, cond_false]
  by_cases h3 : (80 : Int) < c.Chans.length
  · rw [dct h3]; exact ⟨_, rfl, fun h => by cases h⟩
  rw [dcf h3, cond_false]
  by_cases h4 : (40 : Int) < p.Vars.length
  · rw [dct h4]; exact ⟨_, rfl, fun h => by cases h⟩
  rw [dcf h4, cond_false]
  by_cases h5 : (40 : Int) < p.Alts.length
  · rw [dct h5]; exact ⟨_, rfl, fun h => by cases h⟩
  rw [dcf h5]
  exact ⟨_, rfl, fun _ => by omega⟩
theorem rst_rests {c : T_api_Code} (h : CSmall c) (ok : COk c) {r T b : Int} {d : T_api_Def} (hr : Rst c r d T b) : F_retraceref22_Rests c r b = some true := by
  obtain ⟨hb, y, hy, ho⟩ := hr
  obtain ⟨hr0, hr1, hE0, hTl⟩ := To_le h ok hb.hd hb.hT
  have hrt := inR_routine h ok hb
  have his : ∀ o, F_retraceref22_is c r b o = some (y.Op == o) := fun o => by
    unfold F_retraceref22_is F_retraceref22_is_J1
    rw [routine_eq c h.defs, hrt]
    simp only [Option.bind_some, beq_self_eq_true, cond_true, dct hr0, hy]
  unfold F_retraceref22_Rests F_retraceref22_Rests_J1
  rw [his, his]
  rcases ho with ho | ho <;> rw [ho] <;> rfl
theorem law_runRests (c : T_api_Code) (p : T_api_Proc) (dn : ∀ d ∈ c.Defs, d.Name.size ≤ maxLen) (cn : ∀ d ∈ c.Chans, d.Name.size ≤ maxLen) (hB : ∀ x ∈ c.Ins, x.B ≤ 9223372036854775807) : F_retracelaw24_RunRests c p = some true := by
  have ht : F_retracelaw24_RunRests_J1 c p true = some true := by
    unfold F_retracelaw24_RunRests_J1
    rw [ev_retracelaw24_live]; rfl
  unfold F_retracelaw24_RunRests
  obtain ⟨b, hb, hl⟩ := large24 c p
  rw [hb]
  cases b with
  | true => exact ht
  | false =>
  obtain ⟨l1, l2, l3, l4⟩ := hl rfl
  have h : CSmall c := ⟨l1, l2, l3, dn, cn⟩
  obtain ⟨rb, hrb, hk⟩ := right_chk h
  simp only [Option.bind_some, cond_false, hrb, Pi.isP_eq c h p l4]
  cases rb with
  | false => exact ht
  | true =>
  have ok := hk rfl
  simp only [Bool.not_true, cond_false]
  cases hP : Pi.isPB c p with
  | false => exact ht
  | true =>
  simp only [Bool.not_true, cond_false]
  by_cases hmode : p.Mode = 0
  · rw [show (p.Mode != 0) = false by simp [hmode]]
    have hmb : Pi.isB c p.Def p.At 1 = true := by
      unfold Pi.isPB Pi.modeB at hP
      simp only [Bool.and_eq_true] at hP
      have := hP.2.2.2.2.2
      rwa [if_pos (.inl hmode)] at this
    obtain ⟨a0, a1, a2, a3, x, hx, h1⟩ := Pi.isB_at hmb
    obtain ⟨r, d, T, hp⟩ := inR_ex h ok a0 a1
    have hr : p.Def = r := by rw [← a3]; exact inR_routine h ok hp
    obtain ⟨est, e, ee, hfin, hst⟩ := step_eff h ok hB p hmode hp hx h1
    obtain ⟨_, hk4⟩ := hfin
    have hkind : 1 ≤ e.Kind ∧ e.Kind ≤ 11 := by
      rcases hk4 with ⟨k1, k2, _⟩ | ⟨k1, _⟩ | ⟨k1, _⟩ | ⟨k1, _⟩ <;> omega
    have hflt : ((e.Fault != 0) == (e.Kind == 11)) = true := by
      rcases hk4 with ⟨k1, k2, k3, _⟩ | ⟨k1, _, k3, _⟩ | ⟨k1, _, k3, _⟩ | ⟨k1, _, k3, _⟩
      · have : (e.Kind == 11) = false := by simp; omega
        rw [this, k3]; rfl
      · rw [k1, k3]; rfl
      · rw [k1, k3]; rfl
      · have : (e.Fault != 0) = true := by simp [k3]
        rw [this, k1]; rfl
    have halts : ∃ m, m ≤ 1000 ∧ GA (Rst c r d T) m e.Alts := by
      rcases hk4 with ⟨k1, k2, k3, k4, _⟩ | ⟨k1, _, k3, k4⟩ | ⟨k1, _, k3, k4⟩ | ⟨k1, _, k3, k4⟩
      · exact ⟨0, by omega, by rw [k4]; exact ⟨Nat.le_refl _, fun a ha => by cases ha⟩⟩
      · exact ⟨0, by omega, by rw [k4]; exact ⟨Nat.le_refl _, fun a ha => by cases ha⟩⟩
      · exact k4
      · exact ⟨0, by omega, by rw [k4]; exact ⟨Nat.le_refl _, fun a ha => by cases ha⟩⟩
    obtain ⟨m, hm, hga⟩ := halts
    unfold F_retracelaw24_RunRests_J1
    rw [cond_false, ee, Option.bind_some, dcf (show ¬ e.Kind < 1 by omega), dcf (show ¬ 11 < e.Kind by omega), est]
    simp only [cond_false, Option.bind_some, hst, bne_self_eq_false, hflt, Bool.not_true]
    unfold F_retracelaw24_RunRests_J2
    rw [cond_false]
    have hlen := hga.1
    refine Loop_nat (fun k => (k : Int)) e.Alts.length (fun i hi => ?_) ?_
    · show F_retracelaw24_RunRests_L7 c p e (i : Int) = _
      obtain ⟨al, hal, hmem⟩ := lAt_ok (l := e.Alts) (i := (i : Int)) (by omega) (by omega)
      obtain ⟨q1, q2, q3⟩ := hga.2 al hmem
      unfold F_retracelaw24_RunRests_L7 F_retracelaw24_RunRests_J3
      rw [dct (show (i : Int) < e.Alts.length by omega), hal]
      simp only [cond_true, Option.bind_some, hr, rst_rests h ok q3, Bool.not_true, cond_false, dcf (show ¬ al.Kind < 1 by omega), dcf (show ¬ 4 < al.Kind by omega)]
      rw [w64i (by omega) (by omega)]
      rfl
    · show F_retracelaw24_RunRests_L7 c p e (e.Alts.length : Int) = _
      unfold F_retracelaw24_RunRests_L7 F_retracelaw24_RunRests_J4 F_retracelaw24_RunRests_J5 F_retracelaw24_RunRests_J6
      rw [dcf (show ¬ (e.Alts.length : Int) < e.Alts.length by omega)]
      simp only [cond_false, ev_retracelaw24_live, Option.bind_some]
      rcases hk4 with ⟨k1, k2, k3, k4, k5⟩ | ⟨k1, k2, k3, k4⟩ | ⟨k1, k2, k3, k4⟩ | ⟨k1, k2, k3, k4⟩
      · rw [show (e.Kind == 9) = false by simp; omega, show (e.Kind == 10) = false by simp; omega, show (e.Kind == 11) = false by simp; omega, k4, hr, rst_rests h ok k5]
        rfl
      · rw [k1, k2]; rfl
      · rw [k1, k2]; rfl
      · rw [k1, k2]; rfl
  · rw [show (p.Mode != 0) = true by simp [hmode]]
    exact ht
end Go.Ab
end
