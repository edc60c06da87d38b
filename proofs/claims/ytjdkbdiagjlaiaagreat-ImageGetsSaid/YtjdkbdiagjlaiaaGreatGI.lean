/- GI -/
import Derived.Test.YtjdkbdiagjlaiaaGreatAbCut
import Derived.Test.YtjdkbdiagjlaiaaGreatAbCon3
import Derived.Test.YtjdkbdiagjlaiaaGreatProg
namespace Go.Ab
open Go.Proofs
set_option linter.unusedVariables false
set_option maxRecDepth 100000
structure T_api_Ins where
  Op : Int
  A : Int
  B : Int
abbrev T_api_Ins.enc (x : T_api_Ins) : List D := [.int .i64 x.Op, .int .i64 x.A, .int .i64 x.B]
theorem T_api_Ins.enc_len (x : T_api_Ins) : (T_api_Ins.enc x).length = 3 := rfl
abbrev T_api_Ins.pvs (x : T_api_Ins) : List PV := [i64 x.Op, i64 x.A, i64 x.B]
structure T_api_Def where
  Name : ByteArray
  Entry : Int
  Params : Int
  Vars : Int
abbrev T_api_Def.enc (x : T_api_Def) : List D := [.str x.Name, .int .i64 x.Entry, .int .i64 x.Params, .int .i64 x.Vars]
theorem T_api_Def.enc_len (x : T_api_Def) : (T_api_Def.enc x).length = 4 := rfl
abbrev T_api_Def.pvs (x : T_api_Def) : List PV := [sv x.Name, i64 x.Entry, i64 x.Params, i64 x.Vars]
structure T_api_Chan where
  Name : ByteArray
  Base : Int
  Size : Int
abbrev T_api_Chan.enc (x : T_api_Chan) : List D := [.str x.Name, .int .i64 x.Base, .int .i64 x.Size]
theorem T_api_Chan.enc_len (x : T_api_Chan) : (T_api_Chan.enc x).length = 3 := rfl
abbrev T_api_Chan.pvs (x : T_api_Chan) : List PV := [sv x.Name, i64 x.Base, i64 x.Size]
structure T_api_Code where
  Ins : (List T_api_Ins)
  Defs : (List T_api_Def)
  Chans : (List T_api_Chan)
  Main : Int
  Stmts : Int
abbrev T_api_Code.enc (x : T_api_Code) : List D := [.list false (x.Ins).length (encL T_api_Ins.enc x.Ins), .list false (x.Defs).length (encL T_api_Def.enc x.Defs), .list false (x.Chans).length (encL T_api_Chan.enc x.Chans), .int .i64 x.Main, .int .i64 x.Stmts]
theorem T_api_Code.enc_len (x : T_api_Code) : (T_api_Code.enc x).length = 5 := rfl
abbrev T_api_Code.pvs (x : T_api_Code) : List PV := [lv T_api_Ins.enc x.Ins, lv T_api_Def.enc x.Defs, lv T_api_Chan.enc x.Chans, i64 x.Main, i64 x.Stmts]
structure T_retraceref19_Got where
  C : T_api_Code
  At : Int
  E : Int
abbrev T_retraceref19_Got.enc (x : T_retraceref19_Got) : List D := [.list false (x.C.Ins).length (encL T_api_Ins.enc x.C.Ins), .list false (x.C.Defs).length (encL T_api_Def.enc x.C.Defs), .list false (x.C.Chans).length (encL T_api_Chan.enc x.C.Chans), .int .i64 x.C.Main, .int .i64 x.C.Stmts, .int .i64 x.At, .int .i64 x.E]
theorem T_retraceref19_Got.enc_len (x : T_retraceref19_Got) : (T_retraceref19_Got.enc x).length = 7 := rfl
abbrev T_retraceref19_Got.pvs (x : T_retraceref19_Got) : List PV := [lv T_api_Ins.enc x.C.Ins, lv T_api_Def.enc x.C.Defs, lv T_api_Chan.enc x.C.Chans, i64 x.C.Main, i64 x.C.Stmts, i64 x.At, i64 x.E]
structure T_code_checker where
  Code : T_api_Code
  marks : Int
  from_ : Int
  to : Int
  vars : Int
abbrev T_code_checker.enc (x : T_code_checker) : List D := [.list false (x.Code.Ins).length (encL T_api_Ins.enc x.Code.Ins), .list false (x.Code.Defs).length (encL T_api_Def.enc x.Code.Defs), .list false (x.Code.Chans).length (encL T_api_Chan.enc x.Code.Chans), .int .i64 x.Code.Main, .int .i64 x.Code.Stmts, .int .i64 x.marks, .int .i64 x.from_, .int .i64 x.to, .int .i64 x.vars]
theorem T_code_checker.enc_len (x : T_code_checker) : (T_code_checker.enc x).length = 9 := rfl
abbrev T_code_checker.pvs (x : T_code_checker) : List PV := [lv T_api_Ins.enc x.Code.Ins, lv T_api_Def.enc x.Code.Defs, lv T_api_Chan.enc x.Code.Chans, i64 x.Code.Main, i64 x.Code.Stmts, i64 x.marks, i64 x.from_, i64 x.to, i64 x.vars]
structure T_ins_row where
  word : ByteArray
  nums : Int
  takes : Int
  gives : Int
abbrev T_ins_row.enc (x : T_ins_row) : List D := [.str x.word, .int .i64 x.nums, .int .i64 x.takes, .int .i64 x.gives]
theorem T_ins_row.enc_len (x : T_ins_row) : (T_ins_row.enc x).length = 4 := rfl
abbrev T_ins_row.pvs (x : T_ins_row) : List PV := [sv x.word, i64 x.nums, i64 x.takes, i64 x.gives]
structure T_code_there where
  n : Int
  choose : Bool
abbrev T_code_there.enc (x : T_code_there) : List D := [.int .i64 x.n, .bool x.choose]
theorem T_code_there.enc_len (x : T_code_there) : (T_code_there.enc x).length = 2 := rfl
abbrev T_code_there.pvs (x : T_code_there) : List PV := [i64 x.n, bo x.choose]
structure T_wire_Writer where
  s : (List Int)
abbrev T_wire_Writer.enc (x : T_wire_Writer) : List D := [.list false (x.s).length (encL (eInt .u8) x.s)]
theorem T_wire_Writer.enc_len (x : T_wire_Writer) : (T_wire_Writer.enc x).length = 1 := rfl
abbrev T_wire_Writer.pvs (x : T_wire_Writer) : List PV := [lv (eInt .u8) x.s]
structure T_wire_Reader where
  s : ByteArray
  e : Int
abbrev T_wire_Reader.enc (x : T_wire_Reader) : List D := [.str x.s, .int .i64 x.e]
theorem T_wire_Reader.enc_len (x : T_wire_Reader) : (T_wire_Reader.enc x).length = 2 := rfl
abbrev T_wire_Reader.pvs (x : T_wire_Reader) : List PV := [sv x.s, i64 x.e]
structure T_retraceref21_Got where
  C : T_api_Code
  E : Int
abbrev T_retraceref21_Got.enc (x : T_retraceref21_Got) : List D := [.list false (x.C.Ins).length (encL T_api_Ins.enc x.C.Ins), .list false (x.C.Defs).length (encL T_api_Def.enc x.C.Defs), .list false (x.C.Chans).length (encL T_api_Chan.enc x.C.Chans), .int .i64 x.C.Main, .int .i64 x.C.Stmts, .int .i64 x.E]
theorem T_retraceref21_Got.enc_len (x : T_retraceref21_Got) : (T_retraceref21_Got.enc x).length = 6 := rfl
abbrev T_retraceref21_Got.pvs (x : T_retraceref21_Got) : List PV := [lv T_api_Ins.enc x.C.Ins, lv T_api_Def.enc x.C.Defs, lv T_api_Chan.enc x.C.Chans, i64 x.C.Main, i64 x.C.Stmts, i64 x.E]
structure T_retraceref03_Reader where
  S : ByteArray
  Bad : Int
abbrev T_retraceref03_Reader.enc (x : T_retraceref03_Reader) : List D := [.str x.S, .int .i64 x.Bad]
theorem T_retraceref03_Reader.enc_len (x : T_retraceref03_Reader) : (T_retraceref03_Reader.enc x).length = 2 := rfl
abbrev T_retraceref03_Reader.pvs (x : T_retraceref03_Reader) : List PV := [sv x.S, i64 x.Bad]
structure T_retraceref01_Got where
  U : Int
  Next : Int
  E : Int
abbrev T_retraceref01_Got.enc (x : T_retraceref01_Got) : List D := [.int .u64 x.U, .int .i64 x.Next, .int .i64 x.E]
theorem T_retraceref01_Got.enc_len (x : T_retraceref01_Got) : (T_retraceref01_Got.enc x).length = 3 := rfl
abbrev T_retraceref01_Got.pvs (x : T_retraceref01_Got) : List PV := [u64 x.U, i64 x.Next, i64 x.E]
structure T_retraceref16_Got where
  L : (List T_api_Ins)
  E : Int
abbrev T_retraceref16_Got.enc (x : T_retraceref16_Got) : List D := [.list false (x.L).length (encL T_api_Ins.enc x.L), .int .i64 x.E]
theorem T_retraceref16_Got.enc_len (x : T_retraceref16_Got) : (T_retraceref16_Got.enc x).length = 2 := rfl
abbrev T_retraceref16_Got.pvs (x : T_retraceref16_Got) : List PV := [lv T_api_Ins.enc x.L, i64 x.E]
structure T_retraceref20_Is where
  Come : Bool
  N : Int
  Choose : Bool
abbrev T_retraceref20_Is.enc (x : T_retraceref20_Is) : List D := [.bool x.Come, .int .i64 x.N, .bool x.Choose]
theorem T_retraceref20_Is.enc_len (x : T_retraceref20_Is) : (T_retraceref20_Is.enc x).length = 3 := rfl
abbrev T_retraceref20_Is.pvs (x : T_retraceref20_Is) : List PV := [bo x.Come, i64 x.N, bo x.Choose]

/- retraceref08_Digit -/
noncomputable def F_retraceref08_Digit_J1 (x2 : Bool) : Option (Bool) :=
  some x2
noncomputable def F_retraceref08_Digit (p0 : Int) : Option (Bool) :=
  cond (decide (48 ≤ p0)) (F_retraceref08_Digit_J1 (decide (p0 ≤ 57))) (F_retraceref08_Digit_J1 false)
/- retraceref08_Letter -/
noncomputable def F_retraceref08_Letter_J1 (x7 : Bool) : Option (Bool) :=
  some x7
noncomputable def F_retraceref08_Letter (p0 : Int) : Option (Bool) :=
  cond (decide (97 ≤ p0)) (cond (decide (p0 ≤ 122)) (F_retraceref08_Letter_J1 true) (cond (decide (65 ≤ p0)) (cond (decide (p0 ≤ 90)) (F_retraceref08_Letter_J1 true) (F_retraceref08_Letter_J1 (p0 == 95))) (F_retraceref08_Letter_J1 (p0 == 95)))) (cond (decide (65 ≤ p0)) (cond (decide (p0 ≤ 90)) (F_retraceref08_Letter_J1 true) (F_retraceref08_Letter_J1 (p0 == 95))) (F_retraceref08_Letter_J1 (p0 == 95)))
/- retraceref08_Words -/
noncomputable def F_retraceref08_Words  : Option ((List ByteArray)) :=
  some ([(⟨#[99, 104, 97, 110]⟩ : ByteArray), (⟨#[112, 114, 111, 99]⟩ : ByteArray), (⟨#[109, 97, 105, 110]⟩ : ByteArray), (⟨#[118, 97, 114]⟩ : ByteArray), (⟨#[105, 102]⟩ : ByteArray), (⟨#[101, 108, 115, 101]⟩ : ByteArray), (⟨#[119, 104, 105, 108, 101]⟩ : ByteArray), (⟨#[115, 101, 108, 101, 99, 116]⟩ : ByteArray), (⟨#[99, 97, 115, 101]⟩ : ByteArray), (⟨#[119, 104, 101, 110]⟩ : ByteArray), (⟨#[97, 102, 116, 101, 114]⟩ : ByteArray), (⟨#[115, 116, 97, 114, 116]⟩ : ByteArray), (⟨#[115, 108, 101, 101, 112]⟩ : ByteArray), (⟨#[114, 97, 110, 100, 111, 109]⟩ : ByteArray), (⟨#[112, 114, 105, 110, 116]⟩ : ByteArray), (⟨#[97, 115, 115, 101, 114, 116]⟩ : ByteArray), (⟨#[115, 107, 105, 112]⟩ : ByteArray), (⟨#[115, 116, 111, 112]⟩ : ByteArray)])
/- retraceref08_In -/
noncomputable def F_retraceref08_In_L1 (p1 : ByteArray) (o0 : (List ByteArray)) (x16 : Int) : Option ((Int) ⊕ (Bool)) :=
  cond (decide (x16 < ((o0).length : Int))) ((lAt o0 x16).bind fun y25 => cond (y25.toList == p1.toList) ((some true).map Sum.inr) (some (.inl (w64 (x16 + 1))))) ((some false).map Sum.inr)
noncomputable def F_retraceref08_In (p1 : ByteArray) (o0 : (List ByteArray)) : Option (Bool) :=
  Loop (fun s : (Int) => F_retraceref08_In_L1 p1 o0 s) 0
/- retraceref08_Name -/
noncomputable def F_retraceref08_Name_J1 (x38 : Int) (x63 : Bool) : Option ((Int) ⊕ (Bool)) :=
  cond x63 ((some false).map Sum.inr) (some (.inl (w64 (x38 + 1))))
noncomputable def F_retraceref08_Name_J2 (x79 : Bool) : Option (Bool) :=
  some x79
noncomputable def F_retraceref08_Name_L3 (p0 : ByteArray) (x38 : Int) : Option ((Int) ⊕ (Bool)) :=
  cond (decide (x38 < (p0.size : Int))) ((sAt p0 x38).bind fun y67 => (F_retraceref08_Letter y67).bind fun y68 => cond (!y68) (cond (x38 == 0) (F_retraceref08_Name_J1 x38 true) ((sAt p0 x38).bind fun y71 => (F_retraceref08_Digit y71).bind fun y72 => F_retraceref08_Name_J1 x38 (!y72))) (F_retraceref08_Name_J1 x38 false)) ((cond (decide (1 ≤ (p0.size : Int))) (cond (decide ((p0.size : Int) ≤ 16)) ((F_retraceref08_Words).bind fun y82 => (F_retraceref08_In p0 y82).bind fun y83 => F_retraceref08_Name_J2 (!y83)) (F_retraceref08_Name_J2 false)) (F_retraceref08_Name_J2 false)).map Sum.inr)
noncomputable def F_retraceref08_Name (p0 : ByteArray) : Option (Bool) :=
  Loop (fun s : (Int) => F_retraceref08_Name_L3 p0 s) 0
/- retraceref17_Which -/
noncomputable def F_retraceref17_Which_J1 (x20 : Bool) : Option (Int) :=
  cond x20 (some 1) (some 0)
noncomputable def F_retraceref17_Which (p0 : Int) : Option (Int) :=
  cond (p0 == 19) (some 2) (cond (p0 == 6) (F_retraceref17_Which_J1 true) (cond (p0 == 7) (F_retraceref17_Which_J1 true) (cond (p0 == 8) (F_retraceref17_Which_J1 true) (cond (p0 == 20) (F_retraceref17_Which_J1 true) (cond (p0 == 21) (F_retraceref17_Which_J1 true) (F_retraceref17_Which_J1 (p0 == 22)))))))
/- retraceref19_Text -/
noncomputable def F_retraceref19_Text (p0 : ByteArray) : Option (T_retraceref19_Got) :=
  cond (sEq p0 ⟨#[109, 97, 105, 110, 32, 123, 32, 125]⟩) (some ⟨⟨[⟨24, 0, 0⟩], [⟨⟨#[109, 97, 105, 110]⟩, 0, 0, 0⟩], [], 0, 0⟩, 0, 0⟩) none
/- token_letter -/
noncomputable def F_token_letter_J1 (x3 : Bool) : Option (Bool) :=
  some x3
noncomputable def F_token_letter (p0 : Int) : Option (Bool) :=
  cond (p0 == 95) (F_token_letter_J1 true) (cond (decide (97 ≤ (bits .or .u8 p0 32))) (F_token_letter_J1 (decide ((bits .or .u8 p0 32) ≤ 122))) (F_token_letter_J1 false))
/- token_digit -/
noncomputable def F_token_digit_J1 (x2 : Bool) : Option (Bool) :=
  some x2
noncomputable def F_token_digit (p0 : Int) : Option (Bool) :=
  cond (decide (48 ≤ p0)) (F_token_digit_J1 (decide (p0 ≤ 57))) (F_token_digit_J1 false)
/- token_wordly -/
noncomputable def F_token_wordly_J1 (x4 : Bool) : Option (Bool) :=
  some x4
noncomputable def F_token_wordly (p0 : Int) : Option (Bool) :=
  (F_token_letter p0).bind fun y5 => cond y5 (F_token_wordly_J1 true) ((F_token_digit p0).bind fun y7 => F_token_wordly_J1 y7)
/- token_run -/
noncomputable def F_token_run_L1 (p0 : ByteArray) (x24 : Int) : Option ((Int) ⊕ (ByteArray)) :=
  cond (decide (x24 < (p0.size : Int))) ((sAt p0 x24).bind fun y38 => (F_token_wordly y38).bind fun y39 => cond (!y39) (grd ((0 : Int) ≤ 0 ∧ (0 : Int) ≤ x24 ∧ x24 ≤ (p0.size : Int)) <| (some (p0.extract (Int.toNat 0) (Int.toNat x24))).map Sum.inr) (some (.inl (w64 (x24 + 1))))) ((some p0).map Sum.inr)
noncomputable def F_token_run (p0 : ByteArray) : Option (ByteArray) :=
  Loop (fun s : (Int) => F_token_run_L1 p0 s) 0
/- token_words -/
noncomputable def F_token_words  : Option ((List ByteArray)) :=
  some ([(⟨#[97, 102, 116, 101, 114]⟩ : ByteArray), (⟨#[97, 115, 115, 101, 114, 116]⟩ : ByteArray), (⟨#[99, 97, 115, 101]⟩ : ByteArray), (⟨#[99, 104, 97, 110]⟩ : ByteArray), (⟨#[101, 108, 115, 101]⟩ : ByteArray), (⟨#[105, 102]⟩ : ByteArray), (⟨#[109, 97, 105, 110]⟩ : ByteArray), (⟨#[112, 114, 105, 110, 116]⟩ : ByteArray), (⟨#[112, 114, 111, 99]⟩ : ByteArray), (⟨#[114, 97, 110, 100, 111, 109]⟩ : ByteArray), (⟨#[115, 101, 108, 101, 99, 116]⟩ : ByteArray), (⟨#[115, 107, 105, 112]⟩ : ByteArray), (⟨#[115, 108, 101, 101, 112]⟩ : ByteArray), (⟨#[115, 116, 97, 114, 116]⟩ : ByteArray), (⟨#[115, 116, 111, 112]⟩ : ByteArray), (⟨#[118, 97, 114]⟩ : ByteArray), (⟨#[119, 104, 101, 110]⟩ : ByteArray), (⟨#[119, 104, 105, 108, 101]⟩ : ByteArray)])
/- cmp_isNaN_string -/
noncomputable def F_cmp_isNaN_string (p0 : ByteArray) : Option (Bool) :=
  some (!(p0.toList == p0.toList))
/- cmp_Less_string -/
noncomputable def F_cmp_Less_string_J1 (x5 : Bool) : Option (Bool) :=
  some x5
noncomputable def F_cmp_Less_string (p0 : ByteArray) (p1 : ByteArray) : Option (Bool) :=
  (F_cmp_isNaN_string p0).bind fun y6 => cond y6 ((F_cmp_isNaN_string p1).bind fun y8 => cond (!y8) (F_cmp_Less_string_J1 true) (F_cmp_Less_string_J1 (sLt p0 p1))) (F_cmp_Less_string_J1 (sLt p0 p1))
/- slices_isNaN_string -/
noncomputable def F_slices_isNaN_string (p0 : ByteArray) : Option (Bool) :=
  some (!(p0.toList == p0.toList))
/- slices_BinarySearch_string_string -/
noncomputable def F_slices_BinarySearch_string_string_J1 (x14 : Int) (x34 : Bool) : Option (Int × Bool) :=
  some (x14, x34)
noncomputable def F_slices_BinarySearch_string_string_L2 (p1 : ByteArray) (o0 : (List ByteArray)) (x14 : Int) (x15 : Int) : Option ((Int × Int) ⊕ (Int × Bool)) :=
  cond (decide (x14 < x15)) ((lAt o0 (w64 (Int.fdiv (wu64 (w64 (x14 + x15))) 2))).bind fun y22 => (F_cmp_Less_string y22 p1).bind fun y23 => cond y23 (some (.inl ((w64 ((w64 (Int.fdiv (wu64 (w64 (x14 + x15))) 2)) + 1)), x15))) (some (.inl (x14, (w64 (Int.fdiv (wu64 (w64 (x14 + x15))) 2)))))) ((cond (decide (x14 < ((o0).length : Int))) ((lAt o0 x14).bind fun y36 => cond (y36.toList == p1.toList) (F_slices_BinarySearch_string_string_J1 x14 true) ((lAt o0 x14).bind fun y38 => (F_slices_isNaN_string y38).bind fun y39 => cond y39 ((F_slices_isNaN_string p1).bind fun y41 => F_slices_BinarySearch_string_string_J1 x14 y41) (F_slices_BinarySearch_string_string_J1 x14 false))) (F_slices_BinarySearch_string_string_J1 x14 false)).map Sum.inr)
noncomputable def F_slices_BinarySearch_string_string (p1 : ByteArray) (o0 : (List ByteArray)) : Option (Int × Bool) :=
  Loop (fun s : (Int × Int) => F_slices_BinarySearch_string_string_L2 p1 o0 s.1 s.2) (0, ((o0).length : Int))
/- token_Word -/
noncomputable def F_token_Word (p0 : ByteArray) : Option (Bool) :=
  (F_token_words).bind fun y3 => (F_slices_BinarySearch_string_string p0 y3).bind fun y4 => some y4.2
/- token_Name -/
noncomputable def F_token_Name_J1 (x9 : Bool) : Option (Bool) :=
  some x9
noncomputable def F_token_Name (p0 : ByteArray) : Option (Bool) :=
  cond (!(p0.toList == (⟨#[]⟩ : ByteArray).toList)) (cond (decide ((p0.size : Int) ≤ 16)) ((sAt p0 0).bind fun y12 => (F_token_letter y12).bind fun y13 => cond y13 ((F_token_run p0).bind fun y15 => cond (y15.toList == p0.toList) ((F_token_Word p0).bind fun y17 => F_token_Name_J1 (!y17)) (F_token_Name_J1 false)) (F_token_Name_J1 false)) (F_token_Name_J1 false)) (F_token_Name_J1 false)
/- code_tables -/
noncomputable def F_code_tables_J3 (x144 : Int) (y205 : T_api_Def) (x244 : Bool) : Option ((Int × Int) ⊕ (Bool)) :=
  cond x244 ((some false).map Sum.inr) (some (.inl (y205.Entry, (w64 (x144 + 1)))))
noncomputable def F_code_tables_J2 (p0 : T_api_Code) (x143 : Int) (x144 : Int) (y205 : T_api_Def) (x208 : Bool) : Option ((Int × Int) ⊕ (Bool)) :=
  cond (!x208) (F_code_tables_J3 x144 y205 true) (cond (decide (x143 < 0)) (cond (y205.Entry != 0) (F_code_tables_J3 x144 y205 true) (cond (decide (y205.Entry ≤ x143)) (F_code_tables_J3 x144 y205 true) (cond (decide (((p0.Ins).length : Int) ≤ y205.Entry)) (F_code_tables_J3 x144 y205 true) (cond (decide (y205.Params < 0)) (F_code_tables_J3 x144 y205 true) (cond (decide (y205.Vars < y205.Params)) (F_code_tables_J3 x144 y205 true) (F_code_tables_J3 x144 y205 (decide (16 < y205.Vars)))))))) (cond (decide (y205.Entry ≤ x143)) (F_code_tables_J3 x144 y205 true) (cond (decide (((p0.Ins).length : Int) ≤ y205.Entry)) (F_code_tables_J3 x144 y205 true) (cond (decide (y205.Params < 0)) (F_code_tables_J3 x144 y205 true) (cond (decide (y205.Vars < y205.Params)) (F_code_tables_J3 x144 y205 true) (F_code_tables_J3 x144 y205 (decide (16 < y205.Vars))))))))
noncomputable def F_code_tables_J4 (x321 : Int) (x322 : Int) (y351 : T_api_Chan) (x366 : Bool) : Option ((Int × Int) ⊕ (Bool)) :=
  cond x366 ((some false).map Sum.inr) (cond (decide (64 < (w64 (x321 + (if 1 > y351.Size then 1 else y351.Size))))) ((some false).map Sum.inr) (some (.inl ((w64 (x321 + (if 1 > y351.Size then 1 else y351.Size))), (w64 (x322 + 1))))))
noncomputable def F_code_tables_L5 (p0 : T_api_Code) (x321 : Int) (x322 : Int) : Option ((Int × Int) ⊕ (Bool)) :=
  cond (decide (x322 < ((p0.Chans).length : Int))) ((lAt p0.Chans x322).bind fun y351 => (F_token_Name y351.Name).bind fun y373 => cond (!y373) (F_code_tables_J4 x321 x322 y351 true) (cond (decide (y351.Size < 0)) (F_code_tables_J4 x321 x322 y351 true) (cond (decide (16 < y351.Size)) (F_code_tables_J4 x321 x322 y351 true) (F_code_tables_J4 x321 x322 y351 (y351.Base != x321))))) ((some true).map Sum.inr)
noncomputable def F_code_tables_L6 (p0 : T_api_Code) (x143 : Int) (x144 : Int) : Option ((Int × Int) ⊕ (Bool)) :=
  cond (decide (x144 < ((p0.Defs).length : Int))) ((lAt p0.Defs x144).bind fun y205 => cond (y205.Name.toList == (⟨#[109, 97, 105, 110]⟩ : ByteArray).toList) (F_code_tables_J2 p0 x143 x144 y205 true) ((F_token_Name y205.Name).bind fun y260 => F_code_tables_J2 p0 x143 x144 y205 y260)) ((Loop (fun s : (Int × Int) => F_code_tables_L5 p0 s.1 s.2) (0, 0)).map Sum.inr)
noncomputable def F_code_tables_J1 (p0 : T_api_Code) (x21 : Bool) : Option (Bool) :=
  cond x21 (some false) (Loop (fun s : (Int × Int) => F_code_tables_L6 p0 s.1 s.2) ((-1), 0))
noncomputable def F_code_tables (p0 : T_api_Code) : Option (Bool) :=
  cond (decide (((p0.Defs).length : Int) < 1)) (F_code_tables_J1 p0 true) (cond (decide (32 < ((p0.Defs).length : Int))) (F_code_tables_J1 p0 true) (cond (decide (65536 < ((p0.Ins).length : Int))) (F_code_tables_J1 p0 true) (cond (decide (p0.Main < 0)) (F_code_tables_J1 p0 true) (cond (decide (((p0.Defs).length : Int) ≤ p0.Main)) (F_code_tables_J1 p0 true) ((lAt p0.Defs p0.Main).bind fun y384 => F_code_tables_J1 p0 (y384.Params != 0))))))
/- code_checker_routine -/
noncomputable def F_code_checker_routine (p1 : Int) (o0 : T_code_checker) : Option (T_code_checker) :=
  (lAt o0.Code.Defs p1).bind fun y3 => (lAt o0.Code.Defs p1).bind fun y4 => cond (decide ((w64 (p1 + 1)) < ((o0.Code.Defs).length : Int))) ((lAt o0.Code.Defs (w64 (p1 + 1))).bind fun y6 => some (⟨o0.Code, o0.marks, y3.Entry, y6.Entry, y4.Vars⟩ : T_code_checker)) (some (⟨o0.Code, o0.marks, y3.Entry, ((o0.Code.Ins).length : Int), y4.Vars⟩ : T_code_checker))
/- ins_rows -/
noncomputable def F_ins_rows  : Option ((List T_ins_row)) :=
  grd ((([(⟨(⟨#[]⟩ : ByteArray), 0, 0, 0⟩ : T_ins_row), (⟨(⟨#[109, 97, 114, 107]⟩ : ByteArray), 1, 0, 0⟩ : T_ins_row), (⟨(⟨#[112, 117, 115, 104]⟩ : ByteArray), 1, 0, 1⟩ : T_ins_row), (⟨(⟨#[108, 111, 97, 100]⟩ : ByteArray), 1, 0, 1⟩ : T_ins_row), (⟨(⟨#[115, 116, 111, 114, 101]⟩ : ByteArray), 1, 1, 0⟩ : T_ins_row), (⟨(⟨#[97, 112, 112, 108, 121]⟩ : ByteArray), 1, 0, 1⟩ : T_ins_row), (⟨(⟨#[106, 117, 109, 112]⟩ : ByteArray), 1, 0, 0⟩ : T_ins_row), (⟨(⟨#[122, 101, 114, 111]⟩ : ByteArray), 1, 1, 0⟩ : T_ins_row), (⟨(⟨#[111, 110, 101]⟩ : ByteArray), 1, 1, 0⟩ : T_ins_row), (⟨(⟨#[99, 104, 97, 110]⟩ : ByteArray), 2, 0, 1⟩ : T_ins_row), (⟨(⟨#[115, 101, 110, 100]⟩ : ByteArray), 0, 2, 0⟩ : T_ins_row), (⟨(⟨#[114, 101, 99, 118]⟩ : ByteArray), 1, 1, 0⟩ : T_ins_row), (⟨(⟨#[100, 114, 97, 119]⟩ : ByteArray), 1, 1, 0⟩ : T_ins_row), (⟨(⟨#[115, 108, 101, 101, 112]⟩ : ByteArray), 0, 1, 0⟩ : T_ins_row), (⟨(⟨#[115, 116, 97, 114, 116]⟩ : ByteArray), 2, 0, 0⟩ : T_ins_row), (⟨(⟨#[112, 114, 105, 110, 116]⟩ : ByteArray), 0, 1, 0⟩ : T_ins_row), (⟨(⟨#[97, 115, 115, 101, 114, 116]⟩ : ByteArray), 0, 1, 0⟩ : T_ins_row), (⟨(⟨#[115, 107, 105, 112]⟩ : ByteArray), 0, 0, 0⟩ : T_ins_row), (⟨(⟨#[115, 116, 111, 112]⟩ : ByteArray), 0, 0, 0⟩ : T_ins_row), (⟨(⟨#[111, 110, 114, 101, 99, 118]⟩ : ByteArray), 2, 1, 0⟩ : T_ins_row), (⟨(⟨#[111, 110, 115, 101, 110, 100]⟩ : ByteArray), 1, 2, 0⟩ : T_ins_row), (⟨(⟨#[97, 102, 116, 101, 114]⟩ : ByteArray), 1, 1, 0⟩ : T_ins_row), (⟨(⟨#[101, 108, 115, 101]⟩ : ByteArray), 1, 0, 0⟩ : T_ins_row), (⟨(⟨#[115, 101, 108, 101, 99, 116]⟩ : ByteArray), 0, 0, 0⟩ : T_ins_row), (⟨(⟨#[101, 110, 100]⟩ : ByteArray), 0, 0, 0⟩ : T_ins_row), (⟨(⟨#[99, 104, 111, 111, 115, 101]⟩ : ByteArray), 0, 0, 0⟩ : T_ins_row)] : List T_ins_row)).length = 26 ∧ ((List.replicate 26 (⟨(⟨#[]⟩ : ByteArray), 0, 0, 0⟩ : T_ins_row))).length = 26) <| grd ((([(⟨(⟨#[]⟩ : ByteArray), 0, 0, 0⟩ : T_ins_row), (⟨(⟨#[109, 97, 114, 107]⟩ : ByteArray), 1, 0, 0⟩ : T_ins_row), (⟨(⟨#[112, 117, 115, 104]⟩ : ByteArray), 1, 0, 1⟩ : T_ins_row), (⟨(⟨#[108, 111, 97, 100]⟩ : ByteArray), 1, 0, 1⟩ : T_ins_row), (⟨(⟨#[115, 116, 111, 114, 101]⟩ : ByteArray), 1, 1, 0⟩ : T_ins_row), (⟨(⟨#[97, 112, 112, 108, 121]⟩ : ByteArray), 1, 0, 1⟩ : T_ins_row), (⟨(⟨#[106, 117, 109, 112]⟩ : ByteArray), 1, 0, 0⟩ : T_ins_row), (⟨(⟨#[122, 101, 114, 111]⟩ : ByteArray), 1, 1, 0⟩ : T_ins_row), (⟨(⟨#[111, 110, 101]⟩ : ByteArray), 1, 1, 0⟩ : T_ins_row), (⟨(⟨#[99, 104, 97, 110]⟩ : ByteArray), 2, 0, 1⟩ : T_ins_row), (⟨(⟨#[115, 101, 110, 100]⟩ : ByteArray), 0, 2, 0⟩ : T_ins_row), (⟨(⟨#[114, 101, 99, 118]⟩ : ByteArray), 1, 1, 0⟩ : T_ins_row), (⟨(⟨#[100, 114, 97, 119]⟩ : ByteArray), 1, 1, 0⟩ : T_ins_row), (⟨(⟨#[115, 108, 101, 101, 112]⟩ : ByteArray), 0, 1, 0⟩ : T_ins_row), (⟨(⟨#[115, 116, 97, 114, 116]⟩ : ByteArray), 2, 0, 0⟩ : T_ins_row), (⟨(⟨#[112, 114, 105, 110, 116]⟩ : ByteArray), 0, 1, 0⟩ : T_ins_row), (⟨(⟨#[97, 115, 115, 101, 114, 116]⟩ : ByteArray), 0, 1, 0⟩ : T_ins_row), (⟨(⟨#[115, 107, 105, 112]⟩ : ByteArray), 0, 0, 0⟩ : T_ins_row), (⟨(⟨#[115, 116, 111, 112]⟩ : ByteArray), 0, 0, 0⟩ : T_ins_row), (⟨(⟨#[111, 110, 114, 101, 99, 118]⟩ : ByteArray), 2, 1, 0⟩ : T_ins_row), (⟨(⟨#[111, 110, 115, 101, 110, 100]⟩ : ByteArray), 1, 2, 0⟩ : T_ins_row), (⟨(⟨#[97, 102, 116, 101, 114]⟩ : ByteArray), 1, 1, 0⟩ : T_ins_row), (⟨(⟨#[101, 108, 115, 101]⟩ : ByteArray), 1, 0, 0⟩ : T_ins_row), (⟨(⟨#[115, 101, 108, 101, 99, 116]⟩ : ByteArray), 0, 0, 0⟩ : T_ins_row), (⟨(⟨#[101, 110, 100]⟩ : ByteArray), 0, 0, 0⟩ : T_ins_row), (⟨(⟨#[99, 104, 111, 111, 115, 101]⟩ : ByteArray), 0, 0, 0⟩ : T_ins_row)] : List T_ins_row)).length = 26) <| some ([(⟨(⟨#[]⟩ : ByteArray), 0, 0, 0⟩ : T_ins_row), (⟨(⟨#[109, 97, 114, 107]⟩ : ByteArray), 1, 0, 0⟩ : T_ins_row), (⟨(⟨#[112, 117, 115, 104]⟩ : ByteArray), 1, 0, 1⟩ : T_ins_row), (⟨(⟨#[108, 111, 97, 100]⟩ : ByteArray), 1, 0, 1⟩ : T_ins_row), (⟨(⟨#[115, 116, 111, 114, 101]⟩ : ByteArray), 1, 1, 0⟩ : T_ins_row), (⟨(⟨#[97, 112, 112, 108, 121]⟩ : ByteArray), 1, 0, 1⟩ : T_ins_row), (⟨(⟨#[106, 117, 109, 112]⟩ : ByteArray), 1, 0, 0⟩ : T_ins_row), (⟨(⟨#[122, 101, 114, 111]⟩ : ByteArray), 1, 1, 0⟩ : T_ins_row), (⟨(⟨#[111, 110, 101]⟩ : ByteArray), 1, 1, 0⟩ : T_ins_row), (⟨(⟨#[99, 104, 97, 110]⟩ : ByteArray), 2, 0, 1⟩ : T_ins_row), (⟨(⟨#[115, 101, 110, 100]⟩ : ByteArray), 0, 2, 0⟩ : T_ins_row), (⟨(⟨#[114, 101, 99, 118]⟩ : ByteArray), 1, 1, 0⟩ : T_ins_row), (⟨(⟨#[100, 114, 97, 119]⟩ : ByteArray), 1, 1, 0⟩ : T_ins_row), (⟨(⟨#[115, 108, 101, 101, 112]⟩ : ByteArray), 0, 1, 0⟩ : T_ins_row), (⟨(⟨#[115, 116, 97, 114, 116]⟩ : ByteArray), 2, 0, 0⟩ : T_ins_row), (⟨(⟨#[112, 114, 105, 110, 116]⟩ : ByteArray), 0, 1, 0⟩ : T_ins_row), (⟨(⟨#[97, 115, 115, 101, 114, 116]⟩ : ByteArray), 0, 1, 0⟩ : T_ins_row), (⟨(⟨#[115, 107, 105, 112]⟩ : ByteArray), 0, 0, 0⟩ : T_ins_row), (⟨(⟨#[115, 116, 111, 112]⟩ : ByteArray), 0, 0, 0⟩ : T_ins_row), (⟨(⟨#[111, 110, 114, 101, 99, 118]⟩ : ByteArray), 2, 1, 0⟩ : T_ins_row), (⟨(⟨#[111, 110, 115, 101, 110, 100]⟩ : ByteArray), 1, 2, 0⟩ : T_ins_row), (⟨(⟨#[97, 102, 116, 101, 114]⟩ : ByteArray), 1, 1, 0⟩ : T_ins_row), (⟨(⟨#[101, 108, 115, 101]⟩ : ByteArray), 1, 0, 0⟩ : T_ins_row), (⟨(⟨#[115, 101, 108, 101, 99, 116]⟩ : ByteArray), 0, 0, 0⟩ : T_ins_row), (⟨(⟨#[101, 110, 100]⟩ : ByteArray), 0, 0, 0⟩ : T_ins_row), (⟨(⟨#[99, 104, 111, 111, 115, 101]⟩ : ByteArray), 0, 0, 0⟩ : T_ins_row)] : List T_ins_row)
/- ins_find -/
noncomputable def F_ins_find_J1 (p0 : Int) (x6 : Bool) : Option (T_ins_row × Bool) :=
  cond x6 (some ((⟨(⟨#[]⟩ : ByteArray), 0, 0, 0⟩ : T_ins_row), false)) ((F_ins_rows).bind fun y10 => (aAt 26 y10 p0).bind fun y11 => some (y11, true))
noncomputable def F_ins_find (p0 : Int) : Option (T_ins_row × Bool) :=
  cond (decide (p0 < 1)) (F_ins_find_J1 p0 true) (F_ins_find_J1 p0 (decide (25 < p0)))
/- arith_Wide -/
noncomputable def F_arith_Wide_J2 (x13 : Bool) : Option (Int) :=
  cond x13 (some 2) (some 0)
noncomputable def F_arith_Wide_J1 (p0 : Int) (x10 : Bool) : Option (Int) :=
  cond x10 (some 1) (cond (decide (5 ≤ p0)) (F_arith_Wide_J2 (decide (p0 ≤ 17))) (F_arith_Wide_J2 false))
noncomputable def F_arith_Wide (p0 : Int) : Option (Int) :=
  cond (p0 == 3) (F_arith_Wide_J1 p0 true) (F_arith_Wide_J1 p0 (p0 == 4))
/- ins_Right -/
noncomputable def F_ins_Right_J2 (x28 : Bool) : Option (Bool) :=
  some x28
noncomputable def F_ins_Right_J1 (p0 : T_api_Ins) (x20 : Bool) : Option (Bool) :=
  cond x20 (some false) (cond (p0.Op != 14) (cond (p0.Op != 5) (F_ins_Right_J2 true) ((F_arith_Wide p0.A).bind fun y31 => F_ins_Right_J2 (decide (0 < y31)))) (cond (decide (0 ≤ p0.B)) (cond (p0.Op != 5) (F_ins_Right_J2 true) ((F_arith_Wide p0.A).bind fun y34 => F_ins_Right_J2 (decide (0 < y34)))) (F_ins_Right_J2 false)))
noncomputable def F_ins_Right (p0 : T_api_Ins) : Option (Bool) :=
  (F_ins_find p0.Op).bind fun y2 => cond (!y2.2) (F_ins_Right_J1 p0 true) (cond (decide (y2.1.nums < 1)) (cond (p0.A != 0) (F_ins_Right_J1 p0 true) (cond (decide (y2.1.nums < 2)) (F_ins_Right_J1 p0 (p0.B != 0)) (F_ins_Right_J1 p0 false))) (cond (decide (y2.1.nums < 2)) (F_ins_Right_J1 p0 (p0.B != 0)) (F_ins_Right_J1 p0 false)))
/- code_checker_may_1 -/
noncomputable def F_code_checker_may_1_J1 (x2 : Bool) : Option (Bool) :=
  some x2
noncomputable def F_code_checker_may_1 (p0 : T_api_Chan) (o0 : T_api_Ins) : Option (Bool) :=
  cond (p0.Base == o0.A) (F_code_checker_may_1_J1 (p0.Size == o0.B)) (F_code_checker_may_1_J1 false)
/- slices_IndexFunc_retrace_api_Chan_retrace_api_Chan -/
noncomputable def F_slices_IndexFunc_retrace_api_Chan_retrace_api_Chan_L1 (p0 : (List T_api_Chan)) (o0 : T_api_Ins) (x20 : Int) : Option ((Int) ⊕ (Int)) :=
  cond (decide (x20 < ((p0).length : Int))) ((lAt p0 x20).bind fun y32 => (F_code_checker_may_1 y32 o0).bind fun y33 => cond y33 ((some x20).map Sum.inr) (some (.inl (w64 (x20 + 1))))) ((some (-1)).map Sum.inr)
noncomputable def F_slices_IndexFunc_retrace_api_Chan_retrace_api_Chan (p0 : (List T_api_Chan)) (o0 : T_api_Ins) : Option (Int) :=
  Loop (fun s : (Int) => F_slices_IndexFunc_retrace_api_Chan_retrace_api_Chan_L1 p0 o0 s) 0
/- slices_ContainsFunc_retrace_api_Chan_retrace_api_Chan -/
noncomputable def F_slices_ContainsFunc_retrace_api_Chan_retrace_api_Chan (p0 : (List T_api_Chan)) (o0 : T_api_Ins) : Option (Bool) :=
  (F_slices_IndexFunc_retrace_api_Chan_retrace_api_Chan p0 o0).bind fun y2 => some (decide (0 ≤ y2))
/- patch_Target -/
noncomputable def F_patch_Target_J1 (p0 : T_api_Ins) (x19 : Bool) : Option (Int × Bool) :=
  cond x19 (some (p0.A, true)) (cond (p0.Op == 19) (some (p0.B, true)) (some (0, false)))
noncomputable def F_patch_Target (p0 : T_api_Ins) : Option (Int × Bool) :=
  cond (p0.Op == 6) (F_patch_Target_J1 p0 (p0.Op == 6)) (cond (p0.Op == 7) (F_patch_Target_J1 p0 (p0.Op == 7)) (cond (p0.Op == 8) (F_patch_Target_J1 p0 (p0.Op == 8)) (cond (p0.Op == 20) (F_patch_Target_J1 p0 (p0.Op == 20)) (cond (p0.Op == 21) (F_patch_Target_J1 p0 (p0.Op == 21)) (F_patch_Target_J1 p0 (p0.Op == 22))))))
/- code_checker_aimed -/
noncomputable def F_code_checker_aimed_J1 (x5 : Bool) : Option (Bool) :=
  some x5
noncomputable def F_code_checker_aimed (p1 : Int) (p2 : Int) (o0 : T_code_checker) : Option (Bool) :=
  cond (decide (o0.from_ ≤ p2)) (cond (decide (p2 < o0.to)) (cond (decide (p1 < p2)) (F_code_checker_aimed_J1 true) ((lAt o0.Code.Ins p2).bind fun y9 => F_code_checker_aimed_J1 (y9.Op == 1))) (F_code_checker_aimed_J1 false)) (F_code_checker_aimed_J1 false)
/- code_acts -/
noncomputable def F_code_acts_J1 (x27 : Bool) : Option (Bool) :=
  cond x27 (some true) (some false)
noncomputable def F_code_acts (p0 : Int) : Option (Bool) :=
  cond (p0 == 4) (F_code_acts_J1 (p0 == 4)) (cond (p0 == 10) (F_code_acts_J1 (p0 == 10)) (cond (p0 == 11) (F_code_acts_J1 (p0 == 11)) (cond (p0 == 12) (F_code_acts_J1 (p0 == 12)) (cond (p0 == 13) (F_code_acts_J1 (p0 == 13)) (cond (p0 == 14) (F_code_acts_J1 (p0 == 14)) (cond (p0 == 15) (F_code_acts_J1 (p0 == 15)) (cond (p0 == 16) (F_code_acts_J1 (p0 == 16)) (F_code_acts_J1 (p0 == 17)))))))))
/- code_chooses -/
noncomputable def F_code_chooses_J1 (x4 : Bool) : Option (Bool) :=
  some x4
noncomputable def F_code_chooses (p0 : Int) : Option (Bool) :=
  cond (p0 == 19) (F_code_chooses_J1 true) (cond (p0 == 20) (F_code_chooses_J1 true) (cond (p0 == 21) (F_code_chooses_J1 true) (F_code_chooses_J1 (p0 == 22))))
/- code_Settle -/
noncomputable def F_code_Settle_J1 (p0 : T_api_Code) (x45 : Int) (x46 : Int) (x79 : Bool) : Option ((Int × Int) ⊕ (Int)) :=
  cond x79 ((some x45).map Sum.inr) ((lAt p0.Ins x45).bind fun y83 => some (.inl (y83.A, (w64 (x46 + 1)))))
noncomputable def F_code_Settle_L2 (p0 : T_api_Code) (p1 : Int) (x45 : Int) (x46 : Int) : Option ((Int × Int) ⊕ (Int)) :=
  cond (decide (x46 < (w64 (((p0.Ins).length : Int) + 1)))) (cond (decide (x45 < 0)) (F_code_Settle_J1 p0 x45 x46 true) (cond (decide (((p0.Ins).length : Int) ≤ x45)) (F_code_Settle_J1 p0 x45 x46 true) ((lAt p0.Ins x45).bind fun y86 => F_code_Settle_J1 p0 x45 x46 (y86.Op != 6)))) ((some p1).map Sum.inr)
noncomputable def F_code_Settle (p0 : T_api_Code) (p1 : Int) : Option (Int) :=
  Loop (fun s : (Int × Int) => F_code_Settle_L2 p0 p1 s.1 s.2) (p1, 0)
/- code_checker_rests -/
noncomputable def F_code_checker_rests_J1 (x8 : Bool) : Option (Bool) :=
  some x8
noncomputable def F_code_checker_rests (p1 : Int) (o0 : T_code_checker) : Option (Bool) :=
  (F_code_Settle o0.Code p1).bind fun y2 => cond (decide (o0.from_ ≤ y2)) (cond (decide (y2 < o0.to)) ((lAt o0.Code.Ins y2).bind fun y11 => cond (y11.Op == 1) (F_code_checker_rests_J1 true) ((lAt o0.Code.Ins y2).bind fun y13 => F_code_checker_rests_J1 (y13.Op == 24))) (F_code_checker_rests_J1 false)) (F_code_checker_rests_J1 false)
/- code_checker_may -/
noncomputable def F_code_checker_may_J4 (x66 : Bool) : Option (Bool) :=
  some x66
noncomputable def F_code_checker_may_J3 (p1 : Int) (o0 : T_code_checker) (y2 : T_api_Ins) (y42 : Int × Bool) (x54 : Bool) : Option (Bool) :=
  cond x54 (some false) ((F_code_acts y2.Op).bind fun y67 => cond (!y67) ((F_code_chooses y2.Op).bind fun y69 => cond (!y69) (F_code_checker_may_J4 true) ((F_code_checker_rests y42.1 o0).bind fun y71 => F_code_checker_may_J4 y71)) ((F_code_checker_rests (w64 (p1 + 1)) o0).bind fun y72 => cond y72 ((F_code_chooses y2.Op).bind fun y74 => cond (!y74) (F_code_checker_may_J4 true) ((F_code_checker_rests y42.1 o0).bind fun y76 => F_code_checker_may_J4 y76)) (F_code_checker_may_J4 false)))
noncomputable def F_code_checker_may_J2 (p1 : Int) (o0 : T_code_checker) (y2 : T_api_Ins) (x40 : Bool) : Option (Bool) :=
  (F_patch_Target y2).bind fun y42 => cond (!x40) (F_code_checker_may_J3 p1 o0 y2 y42 true) (cond y42.2 ((F_code_checker_aimed p1 y42.1 o0).bind fun y79 => F_code_checker_may_J3 p1 o0 y2 y42 (!y79)) (F_code_checker_may_J3 p1 o0 y2 y42 false))
noncomputable def F_code_checker_may_J5 (p1 : Int) (o0 : T_code_checker) (y2 : T_api_Ins) (x85 : Bool) : Option (Bool) :=
  cond x85 (cond (decide (0 ≤ y2.A)) (F_code_checker_may_J2 p1 o0 y2 (decide (y2.A < o0.vars))) (F_code_checker_may_J2 p1 o0 y2 false)) (cond (y2.Op == 9) ((F_slices_ContainsFunc_retrace_api_Chan_retrace_api_Chan o0.Code.Chans y2).bind fun y89 => F_code_checker_may_J2 p1 o0 y2 y89) (cond (y2.Op == 14) (cond (decide (0 ≤ y2.A)) (cond (decide (y2.A < ((o0.Code.Defs).length : Int))) ((lAt o0.Code.Defs y2.A).bind fun y93 => F_code_checker_may_J2 p1 o0 y2 (y2.B == y93.Params)) (F_code_checker_may_J2 p1 o0 y2 false)) (F_code_checker_may_J2 p1 o0 y2 false)) (F_code_checker_may_J2 p1 o0 y2 true)))
noncomputable def F_code_checker_may_J1 (p1 : Int) (o0 : T_code_checker) (y2 : T_api_Ins) (x20 : Bool) : Option (Bool) :=
  cond x20 (some false) (cond (y2.Op == 1) (F_code_checker_may_J2 p1 o0 y2 (y2.A == o0.marks)) (cond (y2.Op == 3) (F_code_checker_may_J5 p1 o0 y2 (y2.Op == 3)) (cond (y2.Op == 4) (F_code_checker_may_J5 p1 o0 y2 (y2.Op == 4)) (cond (y2.Op == 11) (F_code_checker_may_J5 p1 o0 y2 (y2.Op == 11)) (cond (y2.Op == 12) (F_code_checker_may_J5 p1 o0 y2 (y2.Op == 12)) (F_code_checker_may_J5 p1 o0 y2 (y2.Op == 19)))))))
noncomputable def F_code_checker_may (p1 : Int) (o0 : T_code_checker) : Option (Bool) :=
  (lAt o0.Code.Ins p1).bind fun y2 => (F_ins_Right y2).bind fun y98 => cond (!y98) (F_code_checker_may_J1 p1 o0 y2 true) (cond (!((y2.Op == 24) == (p1 == (w64 (o0.to - 1))))) (F_code_checker_may_J1 p1 o0 y2 true) (cond (p1 == o0.from_) (cond (y2.Op != 1) (F_code_checker_may_J1 p1 o0 y2 (y2.Op != 24)) (F_code_checker_may_J1 p1 o0 y2 false)) (F_code_checker_may_J1 p1 o0 y2 false)))
/- ins_Takes -/
noncomputable def F_ins_Takes_J1 (p0 : T_api_Ins) (y2 : T_ins_row × Bool) (x21 : Bool) : Option (Int) :=
  cond x21 (some 1) (cond (p0.Op == 14) (some p0.B) (some y2.1.takes))
noncomputable def F_ins_Takes (p0 : T_api_Ins) : Option (Int) :=
  (F_ins_find p0.Op).bind fun y2 => (F_ins_Right p0).bind fun y15 => cond (!y15) (some 0) (cond (p0.Op == 5) ((F_arith_Wide p0.A).bind fun y19 => some y19) (cond (p0.Op == 9) (F_ins_Takes_J1 p0 y2 (decide (0 < p0.B))) (F_ins_Takes_J1 p0 y2 false)))
/- ins_Gives -/
noncomputable def F_ins_Gives_J1 (y10 : T_ins_row × Bool) (x13 : Bool) : Option (Int) :=
  cond x13 (some y10.1.gives) (some 0)
noncomputable def F_ins_Gives (p0 : T_api_Ins) : Option (Int) :=
  (F_ins_find p0.Op).bind fun y10 => cond y10.2 ((F_ins_Right p0).bind fun y16 => F_ins_Gives_J1 y10 y16) (F_ins_Gives_J1 y10 false)
/- code_fits -/
noncomputable def F_code_fits_J1 (p0 : T_api_Ins) (p1 : T_code_there) (y2 : Int) (x23 : Bool) (x24 : Bool) : Option (T_code_there × Bool) :=
  (F_ins_Gives p0).bind fun y26 => some ((⟨(w64 ((w64 (p1.n - y2)) + y26)), x24⟩ : T_code_there), x23)
noncomputable def F_code_fits_J3 (p0 : T_api_Ins) (p1 : T_code_there) (y2 : Int) (x39 : Bool) : Option (T_code_there × Bool) :=
  cond x39 (cond ((w64 (p1.n - y2)) == 0) (F_code_fits_J1 p0 p1 y2 (!p1.choose) p1.choose) (F_code_fits_J1 p0 p1 y2 false p1.choose)) (F_code_fits_J1 p0 p1 y2 (decide (0 ≤ (w64 (p1.n - y2)))) p1.choose)
noncomputable def F_code_fits_J2 (p0 : T_api_Ins) (p1 : T_code_there) (y2 : Int) (x29 : Bool) : Option (T_code_there × Bool) :=
  cond x29 (F_code_fits_J1 p0 p1 y2 ((p1.n == 0) && ((p1.choose == false) && true)) (p0.Op == 25)) (cond (p0.Op == 23) (F_code_fits_J1 p0 p1 y2 ((p1.n == 0) && ((p1.choose == true) && true)) p1.choose) ((F_code_chooses p0.Op).bind fun y33 => cond y33 (cond ((w64 (p1.n - y2)) == 0) (F_code_fits_J1 p0 p1 y2 p1.choose p1.choose) (F_code_fits_J1 p0 p1 y2 false p1.choose)) ((F_code_acts p0.Op).bind fun y43 => cond y43 (F_code_fits_J3 p0 p1 y2 y43) (F_code_fits_J3 p0 p1 y2 (p0.Op == 18)))))
noncomputable def F_code_fits (p0 : T_api_Ins) (p1 : T_code_there) : Option (T_code_there × Bool) :=
  (F_ins_Takes p0).bind fun y2 => cond (p0.Op == 1) (F_code_fits_J2 p0 p1 y2 (p0.Op == 1)) (cond (p0.Op == 24) (F_code_fits_J2 p0 p1 y2 (p0.Op == 24)) (F_code_fits_J2 p0 p1 y2 (p0.Op == 25)))
/- code_checker_flow_1 -/
noncomputable def F_code_checker_flow_1 (p0 : Int) (p1 : T_code_there) (o2_0 : Int) (o3_0 : Bool) (o1 : (List (Int × T_code_there))) : Option (Bool × (List (Int × T_code_there))) :=
  Let (mGet o1 p0) fun y2 => cond (decide (p0 ≤ o2_0)) (cond o3_0 (some (((p1.n == 0) && ((p1.choose == false) && true)), o1)) (some (false, o1))) (cond y2.isSome (cond o3_0 (some (((p1.n == ((y2.getD (⟨0, false⟩ : T_code_there)).n)) && ((p1.choose == ((y2.getD (⟨0, false⟩ : T_code_there)).choose)) && true)), o1)) (some (false, o1))) (some (o3_0, (mPut o1 p0 p1))))
/- code_checker_flow -/
noncomputable def F_code_checker_flow_J1 (x139 : Int) (x207 : (List (Int × T_code_there))) : Option (((List (Int × T_code_there)) × Int) ⊕ (Int × Bool)) :=
  some (.inl (x207, (w64 (x139 + 1))))
noncomputable def F_code_checker_flow_J4 (x139 : Int) (x245 : (List (Int × T_code_there))) (x246 : Bool) : Option (((List (Int × T_code_there)) × Int) ⊕ (Int × Bool)) :=
  cond (!x246) ((some (x139, false)).map Sum.inr) (F_code_checker_flow_J1 x139 x245)
noncomputable def F_code_checker_flow_J5 (x139 : Int) (y220 : T_code_there × Bool) (x232 : (List (Int × T_code_there))) (x233 : Bool) (x254 : Bool) : Option (((List (Int × T_code_there)) × Int) ⊕ (Int × Bool)) :=
  cond x254 ((F_code_checker_flow_1 (w64 (x139 + 1)) y220.1 x139 x233 x232).bind fun y256 => F_code_checker_flow_J4 x139 y256.2 y256.1) (F_code_checker_flow_J4 x139 x232 x233)
noncomputable def F_code_checker_flow_J3 (x139 : Int) (y211 : T_api_Ins) (y220 : T_code_there × Bool) (x232 : (List (Int × T_code_there))) (x233 : Bool) : Option (((List (Int × T_code_there)) × Int) ⊕ (Int × Bool)) :=
  cond x233 (cond (y211.Op != 6) (cond (y211.Op != 18) (cond (y211.Op != 23) (F_code_checker_flow_J5 x139 y220 x232 x233 (y211.Op != 24)) (F_code_checker_flow_J5 x139 y220 x232 x233 false)) (F_code_checker_flow_J5 x139 y220 x232 x233 false)) (F_code_checker_flow_J5 x139 y220 x232 x233 false)) (F_code_checker_flow_J5 x139 y220 x232 x233 false)
noncomputable def F_code_checker_flow_J6 (x138 : (List (Int × T_code_there))) (x139 : Int) (y211 : T_api_Ins) (y220 : T_code_there × Bool) (y262 : Int × Bool) (x264 : Bool) : Option (((List (Int × T_code_there)) × Int) ⊕ (Int × Bool)) :=
  cond x264 ((F_code_chooses y211.Op).bind fun y267 => cond y267 ((F_code_checker_flow_1 y262.1 (⟨0, false⟩ : T_code_there) x139 y220.2 x138).bind fun y269 => F_code_checker_flow_J3 x139 y211 y220 y269.2 y269.1) ((F_code_checker_flow_1 y262.1 y220.1 x139 y220.2 x138).bind fun y270 => F_code_checker_flow_J3 x139 y211 y220 y270.2 y270.1)) (F_code_checker_flow_J3 x139 y211 y220 x138 y220.2)
noncomputable def F_code_checker_flow_J2 (x138 : (List (Int × T_code_there))) (x139 : Int) (y209 : (Option T_code_there)) (y211 : T_api_Ins) (x217 : Bool) : Option (((List (Int × T_code_there)) × Int) ⊕ (Int × Bool)) :=
  cond x217 (F_code_checker_flow_J1 x139 x138) ((F_code_fits y211 (y209.getD (⟨0, false⟩ : T_code_there))).bind fun y220 => (F_patch_Target y211).bind fun y262 => cond y262.2 (F_code_checker_flow_J6 x138 x139 y211 y220 y262 y220.2) (F_code_checker_flow_J6 x138 x139 y211 y220 y262 false))
noncomputable def F_code_checker_flow_L7 (o0 : T_code_checker) (x138 : (List (Int × T_code_there))) (x139 : Int) : Option (((List (Int × T_code_there)) × Int) ⊕ (Int × Bool)) :=
  cond (decide (x139 < o0.to)) (Let (mGet x138 x139) fun y209 => (lAt o0.Code.Ins x139).bind fun y211 => cond (!y209.isSome) (F_code_checker_flow_J2 x138 x139 y209 y211 (y211.Op != 1)) (F_code_checker_flow_J2 x138 x139 y209 y211 false)) ((some (0, true)).map Sum.inr)
noncomputable def F_code_checker_flow (o0 : T_code_checker) : Option (Int × Bool) :=
  Loop (fun s : ((List (Int × T_code_there)) × Int) => F_code_checker_flow_L7 o0 s.1 s.2) (([(o0.from_, (⟨0, false⟩ : T_code_there))] : List (Int × T_code_there)), o0.from_)
/- code_Check -/
noncomputable def F_code_Check_J1 (x134 : Int) (x149 : Int) : Option ((Int × Int) ⊕ ((Int × (List T_api_Ins) × (List T_api_Def) × (List T_api_Chan) × Int × Int × Int × Int × Int × Int) ⊕ (Int × Int))) :=
  some (.inl ((w64 (x134 + 1)), x149))
noncomputable def F_code_Check_L2 (p0 : T_api_Code) (x87 : Int) (y133 : T_code_checker) (x134 : Int) (x135 : Int) : Option ((Int × Int) ⊕ ((Int × (List T_api_Ins) × (List T_api_Def) × (List T_api_Chan) × Int × Int × Int × Int × Int × Int) ⊕ (Int × Int))) :=
  cond (decide (x134 < y133.to)) ((F_code_checker_may x134 (⟨y133.Code, x135, y133.from_, y133.to, y133.vars⟩ : T_code_checker)).bind fun y154 => cond (!y154) (((some (x134, 15)).map Sum.inr).map Sum.inr) ((lAt p0.Ins x134).bind fun y161 => cond (y161.Op == 1) (F_code_Check_J1 x134 (w64 (x135 + 1))) (F_code_Check_J1 x134 x135))) ((some (.inl ((w64 (x87 + 1)), y133.Code.Ins, y133.Code.Defs, y133.Code.Chans, y133.Code.Main, y133.Code.Stmts, x135, y133.from_, y133.to, y133.vars))).map Sum.inr)
noncomputable def F_code_Check_L3 (p0 : T_api_Code) (x197 : Int) (x198 : (List T_api_Ins)) (x199 : (List T_api_Def)) (x200 : (List T_api_Chan)) (x201 : Int) (x202 : Int) (x203 : Int) (x204 : Int) (x205 : Int) (x206 : Int) : Option ((Int × (List T_api_Ins) × (List T_api_Def) × (List T_api_Chan) × Int × Int × Int × Int × Int × Int) ⊕ (Int × Int)) :=
  cond (decide (x197 < ((p0.Defs).length : Int))) ((F_code_checker_routine x197 (⟨(⟨x198, x199, x200, x201, x202⟩ : T_api_Code), x203, x204, x205, x206⟩ : T_code_checker)).bind fun y217 => (F_code_checker_flow y217).bind fun y219 => cond (!y219.2) ((some (y219.1, 14)).map Sum.inr) (some (.inl ((w64 (x197 + 1)), y217.Code.Ins, y217.Code.Defs, y217.Code.Chans, y217.Code.Main, y217.Code.Stmts, y217.marks, y217.from_, y217.to, y217.vars)))) ((some (0, 0)).map Sum.inr)
noncomputable def F_code_Check_L4 (p0 : T_api_Code) (x87 : Int) (x88 : (List T_api_Ins)) (x89 : (List T_api_Def)) (x90 : (List T_api_Chan)) (x91 : Int) (x92 : Int) (x93 : Int) (x94 : Int) (x95 : Int) (x96 : Int) : Option ((Int × (List T_api_Ins) × (List T_api_Def) × (List T_api_Chan) × Int × Int × Int × Int × Int × Int) ⊕ (Int × Int)) :=
  cond (decide (x87 < ((p0.Defs).length : Int))) ((F_code_checker_routine x87 (⟨(⟨x88, x89, x90, x91, x92⟩ : T_api_Code), x93, x94, x95, x96⟩ : T_code_checker)).bind fun y133 => Loop (fun s : (Int × Int) => F_code_Check_L2 p0 x87 y133 s.1 s.2) (y133.from_, y133.marks)) ((cond (x93 != p0.Stmts) (some (0, 3)) (Loop (fun s : (Int × (List T_api_Ins) × (List T_api_Def) × (List T_api_Chan) × Int × Int × Int × Int × Int × Int) => F_code_Check_L3 p0 s.1 s.2.1 s.2.2.1 s.2.2.2.1 s.2.2.2.2.1 s.2.2.2.2.2.1 s.2.2.2.2.2.2.1 s.2.2.2.2.2.2.2.1 s.2.2.2.2.2.2.2.2.1 s.2.2.2.2.2.2.2.2.2) (0, x88, x89, x90, x91, x92, x93, x94, x95, x96))).map Sum.inr)
noncomputable def F_code_Check (p0 : T_api_Code) : Option (Int × Int) :=
  (F_code_tables p0).bind fun y5 => cond (!y5) (some (0, 3)) (Loop (fun s : (Int × (List T_api_Ins) × (List T_api_Def) × (List T_api_Chan) × Int × Int × Int × Int × Int × Int) => F_code_Check_L4 p0 s.1 s.2.1 s.2.2.1 s.2.2.2.1 s.2.2.2.2.1 s.2.2.2.2.2.1 s.2.2.2.2.2.2.1 s.2.2.2.2.2.2.2.1 s.2.2.2.2.2.2.2.2.1 s.2.2.2.2.2.2.2.2.2) (0, p0.Ins, p0.Defs, p0.Chans, p0.Main, p0.Stmts, 0, 0, 0, 0))
/- wire_Writer_add -/
noncomputable def F_wire_Writer_add (p1 : ByteArray) (o0 : T_wire_Writer) : Option (T_wire_Writer) :=
  grd (((o0.s).length + p1.size) * 1 ≤ 140737488355328) <| some (⟨(o0.s ++ (sB p1))⟩ : T_wire_Writer)
/- wire_Writer_Raw -/
noncomputable def F_wire_Writer_Raw (p1 : ByteArray) (o0 : T_wire_Writer) : Option (T_wire_Writer) :=
  (F_wire_Writer_add p1 o0).bind fun y1 => some y1
/- vint_Size -/
noncomputable def F_vint_Size_L1 (x9 : Int) (x10 : Int) : Option ((Int × Int) ⊕ (Int)) :=
  cond (decide (128 ≤ x9)) (some (.inl ((Int.fdiv x9 128), (w64 (x10 + 1))))) ((some x10).map Sum.inr)
noncomputable def F_vint_Size (p0 : Int) : Option (Int) :=
  Loop (fun s : (Int × Int) => F_vint_Size_L1 s.1 s.2) (p0, 1)
/- vint_Put -/
noncomputable def F_vint_Put_L1 (x17 : Int) (x18 : (List Int)) : Option ((Int × (List Int)) ⊕ (ByteArray)) :=
  cond (decide (128 ≤ x17)) (grd (((x18).length + ([(bits .or .u8 (wu8 x17) 128)]).length) * 1 ≤ 140737488355328) <| some (.inl ((Int.fdiv x17 128), (x18 ++ [(bits .or .u8 (wu8 x17) 128)])))) ((grd (((x18).length + ([(wu8 x17)]).length) * 1 ≤ 140737488355328) <| some (strOfNums (x18 ++ [(wu8 x17)]))).map Sum.inr)
noncomputable def F_vint_Put (p0 : ByteArray) (p1 : Int) : Option (ByteArray) :=
  (F_vint_Size p1).bind fun y3 => grd ((0 : Int) ≤ 0 ∧ 0 ≤ (w64 ((p0.size : Int) + y3)) ∧ (w64 ((p0.size : Int) + y3)) ≤ 281474976710656 ∧ (1 : Int) * (w64 ((p0.size : Int) + y3)) ≤ 281474976710656) <| grd (((([] : List Int)).length + p0.size) * 1 ≤ 140737488355328) <| Loop (fun s : (Int × (List Int)) => F_vint_Put_L1 s.1 s.2) (p1, (([] : List Int) ++ (sB p0)))
/- wire_Writer_Num -/
noncomputable def F_wire_Writer_Num (p1 : Int) (o0 : T_wire_Writer) : Option (T_wire_Writer) :=
  (F_vint_Put (⟨#[]⟩ : ByteArray) p1).bind fun y1 => (F_wire_Writer_add y1 o0).bind fun y2 => some y2
/- image_bytes_1 -/
noncomputable def F_image_bytes_1_L1 (o0 : (List Int)) (x1 : Int) (x2 : (List Int)) : Option ((Int × (List Int)) ⊕ (T_wire_Writer)) :=
  cond (decide (x1 < ((o0).length : Int))) ((lAt o0 x1).bind fun y11 => (F_wire_Writer_Num (wu64 y11) (⟨x2⟩ : T_wire_Writer)).bind fun y12 => some (.inl ((w64 (x1 + 1)), y12.s))) ((some (⟨x2⟩ : T_wire_Writer)).map Sum.inr)
noncomputable def F_image_bytes_1 (o2 : T_wire_Writer) (o0 : (List Int)) : Option (T_wire_Writer) :=
  Loop (fun s : (Int × (List Int)) => F_image_bytes_1_L1 o0 s.1 s.2) (0, o2.s)
/- wire_Writer_Text -/
noncomputable def F_wire_Writer_Text (p1 : ByteArray) (o0 : T_wire_Writer) : Option (T_wire_Writer) :=
  (F_wire_Writer_Num (wu64 (p1.size : Int)) o0).bind fun y2 => (F_wire_Writer_add p1 y2).bind fun y3 => some y3
/- ins_nums -/
noncomputable def F_ins_nums (p0 : T_api_Ins) : Option ((List Int)) :=
  (F_ins_find p0.Op).bind fun y2 => grd ((0 : Int) ≤ 0 ∧ (0 : Int) ≤ y2.1.nums ∧ y2.1.nums ≤ (([p0.A, p0.B]).length : Int)) <| some (lCut ([p0.A, p0.B]) 0 y2.1.nums)
/- vint_Zig -/
noncomputable def F_vint_Zig (p0 : Int) : Option (Int) :=
  some (bits .xor .u64 (wu64 ((wu64 p0) * 2)) (wu64 (Int.fdiv p0 9223372036854775808)))
/- vint_PutInt -/
noncomputable def F_vint_PutInt (p0 : ByteArray) (p1 : Int) : Option (ByteArray) :=
  (F_vint_Zig p1).bind fun y3 => (F_vint_Put p0 y3).bind fun y4 => some y4
/- wire_Writer_Int -/
noncomputable def F_wire_Writer_Int (p1 : Int) (o0 : T_wire_Writer) : Option (T_wire_Writer) :=
  (F_vint_PutInt (⟨#[]⟩ : ByteArray) p1).bind fun y1 => (F_wire_Writer_add y1 o0).bind fun y2 => some y2
/- wire_Writer_Bytes -/
noncomputable def F_wire_Writer_Bytes (o0 : T_wire_Writer) : Option (ByteArray) :=
  some (strOfNums o0.s)
/- ins_Put -/
noncomputable def F_ins_Put_J1 (x62 : Int) (x94 : (List Int)) : Option ((Int × (List Int)) ⊕ (ByteArray)) :=
  some (.inl ((w64 (x62 + 1)), x94))
noncomputable def F_ins_Put_L2 (x62 : Int) (y106 : (List Int)) (x107 : Int) (x108 : (List Int)) : Option ((Int × (List Int)) ⊕ ((Int × (List Int)) ⊕ (ByteArray))) :=
  cond (decide (x107 < ((y106).length : Int))) ((lAt y106 x107).bind fun y117 => (F_wire_Writer_Int y117 (⟨x108⟩ : T_wire_Writer)).bind fun y118 => some (.inl ((w64 (x107 + 1)), y118.s))) ((F_ins_Put_J1 x62 x108).map Sum.inr)
noncomputable def F_ins_Put_L3 (p0 : (List T_api_Ins)) (x62 : Int) (x63 : (List Int)) : Option ((Int × (List Int)) ⊕ (ByteArray)) :=
  cond (decide (x62 < ((p0).length : Int))) ((lAt p0 x62).bind fun y96 => (F_ins_Right y96).bind fun y101 => cond (!y101) (F_ins_Put_J1 x62 x63) ((F_wire_Writer_Raw (strOfNums ([(wu8 y96.Op)])) (⟨x63⟩ : T_wire_Writer)).bind fun y104 => (F_ins_nums y96).bind fun y106 => Loop (fun s : (Int × (List Int)) => F_ins_Put_L2 x62 y106 s.1 s.2) (0, y104.s))) (((F_wire_Writer_Bytes (⟨x63⟩ : T_wire_Writer)).bind fun y124 => some y124).map Sum.inr)
noncomputable def F_ins_Put (p0 : (List T_api_Ins)) : Option (ByteArray) :=
  Loop (fun s : (Int × (List Int)) => F_ins_Put_L3 p0 s.1 s.2) (0, ([] : (List Int)))
/- image_bytes -/
noncomputable def F_image_bytes_L1 (p0 : T_api_Code) (x67 : Int) (x68 : (List Int)) : Option ((Int × (List Int)) ⊕ (ByteArray × Int)) :=
  cond (decide (x67 < ((p0.Chans).length : Int))) ((lAt p0.Chans x67).bind fun y79 => (F_wire_Writer_Text y79.Name (⟨x68⟩ : T_wire_Writer)).bind fun y81 => (F_image_bytes_1 y81 ([y79.Base, y79.Size])).bind fun y82 => some (.inl ((w64 (x67 + 1)), y82.s))) (((F_image_bytes_1 (⟨x68⟩ : T_wire_Writer) ([p0.Main, p0.Stmts])).bind fun y86 => (F_ins_Put p0.Ins).bind fun y89 => (F_wire_Writer_Text y89 y86).bind fun y90 => (F_wire_Writer_Bytes y90).bind fun y92 => some (y92, 0)).map Sum.inr)
noncomputable def F_image_bytes_L2 (p0 : T_api_Code) (x29 : Int) (x30 : (List Int)) : Option ((Int × (List Int)) ⊕ (ByteArray × Int)) :=
  cond (decide (x29 < ((p0.Defs).length : Int))) ((lAt p0.Defs x29).bind fun y41 => (F_wire_Writer_Text y41.Name (⟨x30⟩ : T_wire_Writer)).bind fun y43 => (F_image_bytes_1 y43 ([y41.Entry, y41.Params, y41.Vars])).bind fun y44 => some (.inl ((w64 (x29 + 1)), y44.s))) (((F_image_bytes_1 (⟨x30⟩ : T_wire_Writer) ([((p0.Chans).length : Int)])).bind fun y48 => Loop (fun s : (Int × (List Int)) => F_image_bytes_L1 p0 s.1 s.2) (0, y48.s)).map Sum.inr)
noncomputable def F_image_bytes (p0 : T_api_Code) : Option (ByteArray × Int) :=
  (F_code_Check p0).bind fun y5 => cond (y5.2 != 0) (some ((⟨#[]⟩ : ByteArray), y5.2)) ((F_wire_Writer_Raw (⟨#[82, 84, 67, 49]⟩ : ByteArray) (⟨([] : List Int)⟩ : T_wire_Writer)).bind fun y8 => (F_image_bytes_1 y8 ([((p0.Defs).length : Int)])).bind fun y10 => Loop (fun s : (Int × (List Int)) => F_image_bytes_L2 p0 s.1 s.2) (0, y10.s))
/- crc_table -/
noncomputable def F_crc_table_L1 (x43 : Int) (x44 : (List Int)) (x74 : Int) (x75 : Int) : Option ((Int × Int) ⊕ ((Int × (List Int)) ⊕ ((List Int)))) :=
  cond (decide (x75 < 8)) (some (.inl ((bits .xor .u32 (Int.fdiv x74 2) (bits .and .u32 3988292384 (wu32 (0 - (bits .and .u32 x74 1))))), (w64 (x75 + 1))))) ((grd ((0 : Int) ≤ x43 ∧ x43 < 256 ∧ Int.toNat x43 < (x44).length) <| some (.inl ((w64 (x43 + 1)), (List.set x44 (Int.toNat x43) x74)))).map Sum.inr)
noncomputable def F_crc_table_L2 (x43 : Int) (x44 : (List Int)) : Option ((Int × (List Int)) ⊕ ((List Int))) :=
  cond (decide (x43 < 256)) (Loop (fun s : (Int × Int) => F_crc_table_L1 x43 x44 s.1 s.2) ((wu32 x43), 0)) ((grd ((x44).length = 256) <| grd ((x44).length = 256 ∧ ((List.replicate 256 (0 : Int))).length = 256) <| grd ((x44).length = 256) <| some x44).map Sum.inr)
noncomputable def F_crc_table  : Option ((List Int)) :=
  Loop (fun s : (Int × (List Int)) => F_crc_table_L2 s.1 s.2) (0, (List.replicate 256 (0 : Int)))
/- crc_More -/
noncomputable def F_crc_More_L1 (p1 : ByteArray) (y3 : (List Int)) (x23 : Int) (x24 : Int) : Option ((Int × Int) ⊕ (Int)) :=
  cond (decide (x24 < (((sB p1)).length : Int))) ((lAt (sB p1) x24).bind fun y33 => (aAt 256 y3 (bits .xor .u8 (wu8 x23) y33)).bind fun y34 => some (.inl ((bits .xor .u32 y34 (Int.fdiv x23 256)), (w64 (x24 + 1))))) ((some (bits .xor .u32 4294967295 x23)).map Sum.inr)
noncomputable def F_crc_More (p0 : Int) (p1 : ByteArray) : Option (Int) :=
  (F_crc_table).bind fun y3 => grd ((y3).length = 256 ∧ ((List.replicate 256 (0 : Int))).length = 256) <| grd (p1.size ≤ 281474976710656) <| Loop (fun s : (Int × Int) => F_crc_More_L1 p1 y3 s.1 s.2) ((bits .xor .u32 4294967295 p0), 0)
/- crc_Sum -/
noncomputable def F_crc_Sum (p0 : ByteArray) : Option (Int) :=
  (F_crc_More 0 p0).bind fun y2 => some y2
/- crc_Bytes -/
noncomputable def F_crc_Bytes (p0 : Int) : Option (ByteArray) :=
  some (strOfNums ([(wu8 p0), (wu8 (Int.fdiv p0 256)), (wu8 (Int.fdiv p0 65536)), (wu8 (Int.fdiv p0 16777216))]))
/- crc_Seal -/
noncomputable def F_crc_Seal (p0 : ByteArray) : Option (ByteArray) :=
  (F_crc_Sum p0).bind fun y4 => (F_crc_Bytes y4).bind fun y5 => grd (p0.size + y5.size ≤ 9223372036854775807) <| some (p0 ++ y5)
/- image_Put -/
noncomputable def F_image_Put (p0 : T_api_Code) : Option (ByteArray × Int) :=
  (F_image_bytes p0).bind fun y2 => cond (y2.2 != 0) (some ((⟨#[]⟩ : ByteArray), y2.2)) ((F_crc_Seal y2.1).bind fun y6 => some (y6, 0))
/- crc_Open -/
noncomputable def F_crc_Open (p0 : ByteArray) : Option (ByteArray × Int) :=
  cond (decide ((w64 ((p0.size : Int) - 4)) < 0)) (some ((⟨#[]⟩ : ByteArray), 2)) (grd ((0 : Int) ≤ 0 ∧ (0 : Int) ≤ (w64 ((p0.size : Int) - 4)) ∧ (w64 ((p0.size : Int) - 4)) ≤ (p0.size : Int)) <| (F_crc_Sum (p0.extract (Int.toNat 0) (Int.toNat (w64 ((p0.size : Int) - 4))))).bind fun y17 => (F_crc_Bytes y17).bind fun y18 => grd ((0 : Int) ≤ (w64 ((p0.size : Int) - 4)) ∧ ((w64 ((p0.size : Int) - 4)) : Int) ≤ (p0.size : Int) ∧ (p0.size : Int) ≤ (p0.size : Int)) <| cond (!(y18.toList == (p0.extract (Int.toNat (w64 ((p0.size : Int) - 4))) (Int.toNat (p0.size : Int))).toList)) (some ((⟨#[]⟩ : ByteArray), 4)) (grd ((0 : Int) ≤ 0 ∧ (0 : Int) ≤ (w64 ((p0.size : Int) - 4)) ∧ (w64 ((p0.size : Int) - 4)) ≤ (p0.size : Int)) <| some ((p0.extract (Int.toNat 0) (Int.toNat (w64 ((p0.size : Int) - 4)))), 0)))
/- internal_stringslite_HasPrefix -/
noncomputable def F_internal_stringslite_HasPrefix_J1 (x3 : Bool) : Option (Bool) :=
  some x3
noncomputable def F_internal_stringslite_HasPrefix (p0 : ByteArray) (p1 : ByteArray) : Option (Bool) :=
  cond (decide ((p1.size : Int) ≤ (p0.size : Int))) (grd ((0 : Int) ≤ 0 ∧ (0 : Int) ≤ (p1.size : Int) ∧ (p1.size : Int) ≤ (p0.size : Int)) <| F_internal_stringslite_HasPrefix_J1 ((p0.extract (Int.toNat 0) (Int.toNat (p1.size : Int))).toList == p1.toList)) (F_internal_stringslite_HasPrefix_J1 false)
/- internal_stringslite_CutPrefix -/
noncomputable def F_internal_stringslite_CutPrefix (p0 : ByteArray) (p1 : ByteArray) : Option (ByteArray × Bool) :=
  (F_internal_stringslite_HasPrefix p0 p1).bind fun y5 => cond (!y5) (some (p0, false)) (grd ((0 : Int) ≤ (p1.size : Int) ∧ ((p1.size : Int) : Int) ≤ (p0.size : Int) ∧ (p0.size : Int) ≤ (p0.size : Int)) <| some ((p0.extract (Int.toNat (p1.size : Int)) (Int.toNat (p0.size : Int))), true))
/- strings_CutPrefix -/
noncomputable def F_strings_CutPrefix (p0 : ByteArray) (p1 : ByteArray) : Option (ByteArray × Bool) :=
  (F_internal_stringslite_CutPrefix p0 p1).bind fun y2 => some (y2.1, y2.2)
/- wire_Open -/
noncomputable def F_wire_Open (p0 : ByteArray) : Option (T_wire_Reader) :=
  some (⟨p0, 0⟩ : T_wire_Reader)
/- vint_Get -/
noncomputable def F_vint_Get_J2 (x90 : Int) : Option (Int × Int × Int) :=
  some (0, 0, x90)
noncomputable def F_vint_Get_J3 (p1 : Int) (x95 : Int) (x96 : Int) (y135 : Int) (x156 : Bool) : Option ((Int × Int) ⊕ (Int × Int × Int)) :=
  cond x156 ((F_vint_Get_J2 3).map Sum.inr) (cond (decide (y135 < 128)) (grd ((0 : Int) ≤ (w64 (7 * x96))) <| (some ((bits .or .u64 x95 (wu64 ((wu64 y135) * 2 ^ (min (Int.toNat (w64 (7 * x96))) 64)))), (w64 ((w64 (p1 + x96)) + 1)), 0)).map Sum.inr) (grd ((0 : Int) ≤ (w64 (7 * x96))) <| some (.inl ((bits .or .u64 x95 (wu64 ((wu64 (bits .and .u8 y135 127)) * 2 ^ (min (Int.toNat (w64 (7 * x96))) 64)))), (w64 (x96 + 1))))))
noncomputable def F_vint_Get_J4 (p1 : Int) (x95 : Int) (x96 : Int) (y135 : Int) (x167 : Bool) : Option ((Int × Int) ⊕ (Int × Int × Int)) :=
  cond x167 (F_vint_Get_J3 p1 x95 x96 y135 x167) (cond (decide (0 < x96)) (F_vint_Get_J3 p1 x95 x96 y135 (y135 == 0)) (F_vint_Get_J3 p1 x95 x96 y135 false))
noncomputable def F_vint_Get_L5 (p0 : ByteArray) (p1 : Int) (x95 : Int) (x96 : Int) : Option ((Int × Int) ⊕ (Int × Int × Int)) :=
  cond (decide (x96 < (((sB (p0.extract (Int.toNat p1) (Int.toNat (p0.size : Int))))).length : Int))) ((lAt (sB (p0.extract (Int.toNat p1) (Int.toNat (p0.size : Int)))) x96).bind fun y135 => cond (x96 == 9) (F_vint_Get_J4 p1 x95 x96 y135 (decide (1 < y135))) (F_vint_Get_J4 p1 x95 x96 y135 false)) ((F_vint_Get_J2 2).map Sum.inr)
noncomputable def F_vint_Get_J1 (p0 : ByteArray) (p1 : Int) (x6 : Bool) : Option (Int × Int × Int) :=
  cond x6 (some (0, 0, 1)) (grd ((0 : Int) ≤ p1 ∧ (p1 : Int) ≤ (p0.size : Int) ∧ (p0.size : Int) ≤ (p0.size : Int)) <| grd ((p0.extract (Int.toNat p1) (Int.toNat (p0.size : Int))).size ≤ 281474976710656) <| Loop (fun s : (Int × Int) => F_vint_Get_L5 p0 p1 s.1 s.2) (0, 0))
noncomputable def F_vint_Get (p0 : ByteArray) (p1 : Int) : Option (Int × Int × Int) :=
  cond (decide (p1 < 0)) (F_vint_Get_J1 p0 p1 true) (F_vint_Get_J1 p0 p1 (decide ((p0.size : Int) < p1)))
/- wire_Reader_Upto_1 -/
noncomputable def F_wire_Reader_Upto_1_J1 (y2 : Int × Int × Int) (x11 : Bool) : Option (Int × Int × Int) :=
  cond x11 (some (0, 6, y2.1)) (some (y2.2.1, y2.2.2, y2.1))
noncomputable def F_wire_Reader_Upto_1 (p0 : ByteArray) (o0_0 : Int) (o1_0 : Int) : Option (Int × Int × Int) :=
  (F_vint_Get p0 0).bind fun y2 => cond (y2.2.2 == 0) (cond (decide (o1_0 < 0)) (F_wire_Reader_Upto_1_J1 y2 true) (F_wire_Reader_Upto_1_J1 y2 (decide ((wu64 o1_0) < y2.1)))) (F_wire_Reader_Upto_1_J1 y2 false)
/- wire_Reader_step -/
noncomputable def F_wire_Reader_step (o0 : T_wire_Reader) (o1_0 : Int) (o2_0 : Int) : Option (Bool × T_wire_Reader × Int) :=
  cond (o0.e != 0) (some (false, o0, o1_0)) ((F_wire_Reader_Upto_1 o0.s o1_0 o2_0).bind fun y4 => cond (y4.2.1 != 0) (some (false, (⟨o0.s, y4.2.1⟩ : T_wire_Reader), y4.2.2)) (grd ((0 : Int) ≤ y4.1 ∧ (y4.1 : Int) ≤ (o0.s.size : Int) ∧ (o0.s.size : Int) ≤ (o0.s.size : Int)) <| some (true, (⟨(o0.s.extract (Int.toNat y4.1) (Int.toNat (o0.s.size : Int))), o0.e⟩ : T_wire_Reader), y4.2.2)))
/- wire_Reader_Upto -/
noncomputable def F_wire_Reader_Upto (p1 : Int) (o0 : T_wire_Reader) : Option (Int × T_wire_Reader) :=
  (F_wire_Reader_step o0 0 p1).bind fun y2 => cond (!y2.1) (some (0, y2.2.1)) (some ((w64 y2.2.2), y2.2.1))
/- wire_Reader_Err -/
noncomputable def F_wire_Reader_Err (o0 : T_wire_Reader) : Option (Int) :=
  some o0.e
/- wire_Reader_Raw_1 -/
noncomputable def F_wire_Reader_Raw_1 (p0 : ByteArray) (o0_0 : Int) (o1_0 : ByteArray) : Option (Int × Int × ByteArray) :=
  cond (decide (o0_0 < 0)) (some (0, 1, o1_0)) (cond (decide ((p0.size : Int) < o0_0)) (some (0, 2, o1_0)) (grd ((0 : Int) ≤ 0 ∧ (0 : Int) ≤ o0_0 ∧ o0_0 ≤ (p0.size : Int)) <| some (o0_0, 0, (p0.extract (Int.toNat 0) (Int.toNat o0_0)))))
/- wire_Reader_step_v2 -/
noncomputable def F_wire_Reader_step_v2 (o0 : T_wire_Reader) (o1_0 : Int) (o2_0 : ByteArray) : Option (Bool × T_wire_Reader × ByteArray) :=
  cond (o0.e != 0) (some (false, o0, o2_0)) ((F_wire_Reader_Raw_1 o0.s o1_0 o2_0).bind fun y4 => cond (y4.2.1 != 0) (some (false, (⟨o0.s, y4.2.1⟩ : T_wire_Reader), y4.2.2)) (grd ((0 : Int) ≤ y4.1 ∧ (y4.1 : Int) ≤ (o0.s.size : Int) ∧ (o0.s.size : Int) ≤ (o0.s.size : Int)) <| some (true, (⟨(o0.s.extract (Int.toNat y4.1) (Int.toNat (o0.s.size : Int))), o0.e⟩ : T_wire_Reader), y4.2.2)))
/- wire_Reader_Raw -/
noncomputable def F_wire_Reader_Raw (p1 : Int) (o0 : T_wire_Reader) : Option (ByteArray × T_wire_Reader) :=
  (F_wire_Reader_step_v2 o0 p1 (⟨#[]⟩ : ByteArray)).bind fun y2 => some (y2.2.2, y2.2.1)
/- wire_Reader_Text -/
noncomputable def F_wire_Reader_Text (p1 : Int) (o0 : T_wire_Reader) : Option (ByteArray × T_wire_Reader) :=
  (F_wire_Reader_Upto p1 o0).bind fun y3 => (F_wire_Reader_Raw y3.1 y3.2).bind fun y4 => some (y4.1, y4.2)
/- image_reader_num -/
noncomputable def F_image_reader_num (o0 : T_wire_Reader) : Option (Int × T_wire_Reader) :=
  (F_wire_Reader_Upto 65536 o0).bind fun y2 => some (y2.1, y2.2)
/- image_reader_def -/
noncomputable def F_image_reader_def (o0 : T_wire_Reader) : Option (T_api_Def × T_wire_Reader) :=
  (F_wire_Reader_Text 16 o0).bind fun y2 => (F_image_reader_num y2.2).bind fun y6 => (F_image_reader_num y6.2).bind fun y7 => (F_image_reader_num y7.2).bind fun y8 => some ((⟨y2.1, y6.1, y7.1, y8.1⟩ : T_api_Def), y8.2)
/- image_rows_retrace_api_Def -/
noncomputable def F_image_rows_retrace_api_Def_J1 (x24 : ByteArray) (x25 : Int) (x26 : (List T_api_Def)) (x37 : Bool) : Option ((ByteArray × Int × (List T_api_Def)) ⊕ ((List T_api_Def) × T_wire_Reader)) :=
  cond x37 ((F_image_reader_def (⟨x24, x25⟩ : T_wire_Reader)).bind fun y39 => grd (((x26).length + ([y39.1]).length) * 40 ≤ 140737488355328) <| some (.inl (y39.2.s, y39.2.e, (x26 ++ [y39.1])))) ((some (x26, (⟨x24, x25⟩ : T_wire_Reader))).map Sum.inr)
noncomputable def F_image_rows_retrace_api_Def_L2 (y2 : Int × T_wire_Reader) (x24 : ByteArray) (x25 : Int) (x26 : (List T_api_Def)) : Option ((ByteArray × Int × (List T_api_Def)) ⊕ ((List T_api_Def) × T_wire_Reader)) :=
  cond (decide (((x26).length : Int) < y2.1)) ((F_wire_Reader_Err (⟨x24, x25⟩ : T_wire_Reader)).bind fun y44 => F_image_rows_retrace_api_Def_J1 x24 x25 x26 (y44 == 0)) (F_image_rows_retrace_api_Def_J1 x24 x25 x26 false)
noncomputable def F_image_rows_retrace_api_Def (p1 : Int) (o0 : T_wire_Reader) : Option ((List T_api_Def) × T_wire_Reader) :=
  (F_wire_Reader_Upto p1 o0).bind fun y2 => Loop (fun s : (ByteArray × Int × (List T_api_Def)) => F_image_rows_retrace_api_Def_L2 y2 s.1 s.2.1 s.2.2) (y2.2.s, y2.2.e, ([] : (List T_api_Def)))
/- image_reader_channel -/
noncomputable def F_image_reader_channel (o0 : T_wire_Reader) : Option (T_api_Chan × T_wire_Reader) :=
  (F_wire_Reader_Text 16 o0).bind fun y2 => (F_image_reader_num y2.2).bind fun y5 => (F_image_reader_num y5.2).bind fun y6 => some ((⟨y2.1, y5.1, y6.1⟩ : T_api_Chan), y6.2)
/- image_rows_retrace_api_Chan -/
noncomputable def F_image_rows_retrace_api_Chan_J1 (x24 : ByteArray) (x25 : Int) (x26 : (List T_api_Chan)) (x37 : Bool) : Option ((ByteArray × Int × (List T_api_Chan)) ⊕ ((List T_api_Chan) × T_wire_Reader)) :=
  cond x37 ((F_image_reader_channel (⟨x24, x25⟩ : T_wire_Reader)).bind fun y39 => grd (((x26).length + ([y39.1]).length) * 32 ≤ 140737488355328) <| some (.inl (y39.2.s, y39.2.e, (x26 ++ [y39.1])))) ((some (x26, (⟨x24, x25⟩ : T_wire_Reader))).map Sum.inr)
noncomputable def F_image_rows_retrace_api_Chan_L2 (y2 : Int × T_wire_Reader) (x24 : ByteArray) (x25 : Int) (x26 : (List T_api_Chan)) : Option ((ByteArray × Int × (List T_api_Chan)) ⊕ ((List T_api_Chan) × T_wire_Reader)) :=
  cond (decide (((x26).length : Int) < y2.1)) ((F_wire_Reader_Err (⟨x24, x25⟩ : T_wire_Reader)).bind fun y44 => F_image_rows_retrace_api_Chan_J1 x24 x25 x26 (y44 == 0)) (F_image_rows_retrace_api_Chan_J1 x24 x25 x26 false)
noncomputable def F_image_rows_retrace_api_Chan (p1 : Int) (o0 : T_wire_Reader) : Option ((List T_api_Chan) × T_wire_Reader) :=
  (F_wire_Reader_Upto p1 o0).bind fun y2 => Loop (fun s : (ByteArray × Int × (List T_api_Chan)) => F_image_rows_retrace_api_Chan_L2 y2 s.1 s.2.1 s.2.2) (y2.2.s, y2.2.e, ([] : (List T_api_Chan)))
/- wire_Reader_Left -/
noncomputable def F_wire_Reader_Left (o0 : T_wire_Reader) : Option (Int) :=
  some (o0.s.size : Int)
/- wire_Reader_End -/
noncomputable def F_wire_Reader_End_J1 (y10 : Int) (x13 : Bool) : Option (Int) :=
  cond x13 (some y10) (some 3)
noncomputable def F_wire_Reader_End (o0 : T_wire_Reader) : Option (Int) :=
  (F_wire_Reader_Err o0).bind fun y10 => cond (y10 != 0) (F_wire_Reader_End_J1 y10 true) ((F_wire_Reader_Left o0).bind fun y16 => F_wire_Reader_End_J1 y10 (y16 == 0))
/- vint_Zag -/
noncomputable def F_vint_Zag (p0 : Int) : Option (Int) :=
  some (bits .xor .i64 (w64 (Int.fdiv p0 2)) (w64 (0 - (w64 (bits .and .u64 p0 1)))))
/- vint_GetInt -/
noncomputable def F_vint_GetInt (p0 : ByteArray) (p1 : Int) : Option (Int × Int × Int) :=
  (F_vint_Get p0 p1).bind fun y2 => (F_vint_Zag y2.1).bind fun y4 => some (y4, y2.2.1, y2.2.2)
/- wire_Reader_Int_1 -/
noncomputable def F_wire_Reader_Int_1 (p0 : ByteArray) (o0_0 : Int) : Option (Int × Int × Int) :=
  (F_vint_GetInt p0 0).bind fun y2 => some (y2.2.1, y2.2.2, y2.1)
/- wire_Reader_step_v3 -/
noncomputable def F_wire_Reader_step_v3 (o0 : T_wire_Reader) (o1_0 : Int) : Option (Bool × T_wire_Reader × Int) :=
  cond (o0.e != 0) (some (false, o0, o1_0)) ((F_wire_Reader_Int_1 o0.s o1_0).bind fun y4 => cond (y4.2.1 != 0) (some (false, (⟨o0.s, y4.2.1⟩ : T_wire_Reader), y4.2.2)) (grd ((0 : Int) ≤ y4.1 ∧ (y4.1 : Int) ≤ (o0.s.size : Int) ∧ (o0.s.size : Int) ≤ (o0.s.size : Int)) <| some (true, (⟨(o0.s.extract (Int.toNat y4.1) (Int.toNat (o0.s.size : Int))), o0.e⟩ : T_wire_Reader), y4.2.2)))
/- wire_Reader_Int -/
noncomputable def F_wire_Reader_Int (o0 : T_wire_Reader) : Option (Int × T_wire_Reader) :=
  (F_wire_Reader_step_v3 o0 0).bind fun y2 => some (y2.2.2, y2.2.1)
/- wire_Reader_Fail_1 -/
noncomputable def F_wire_Reader_Fail_1 (p0 : ByteArray) (o0_0 : Int) : Option (Int × Int) :=
  some (0, o0_0)
/- wire_Reader_step_v4 -/
noncomputable def F_wire_Reader_step_v4 (o0 : T_wire_Reader) (o1_0 : Int) : Option (Bool × T_wire_Reader) :=
  cond (o0.e != 0) (some (false, o0)) ((F_wire_Reader_Fail_1 o0.s o1_0).bind fun y4 => cond (y4.2 != 0) (some (false, (⟨o0.s, y4.2⟩ : T_wire_Reader))) (grd ((0 : Int) ≤ y4.1 ∧ (y4.1 : Int) ≤ (o0.s.size : Int) ∧ (o0.s.size : Int) ≤ (o0.s.size : Int)) <| some (true, (⟨(o0.s.extract (Int.toNat y4.1) (Int.toNat (o0.s.size : Int))), o0.e⟩ : T_wire_Reader))))
/- wire_Reader_Fail -/
noncomputable def F_wire_Reader_Fail (p1 : Int) (o0 : T_wire_Reader) : Option (T_wire_Reader) :=
  (F_wire_Reader_step_v4 o0 p1).bind fun y1 => some y1.2
/- ins_Get -/
noncomputable def F_ins_Get_J4 (x65 : (List T_api_Ins)) (y84 : Int) (x91 : Int) (x96 : Int) (x104 : ByteArray) (x105 : Int) : Option ((ByteArray × Int × (List T_api_Ins)) ⊕ ((List T_api_Ins) × Int)) :=
  grd (((x65).length + ([(⟨(w64 y84), x91, x96⟩ : T_api_Ins)]).length) * 24 ≤ 140737488355328) <| some (.inl (x104, x105, (x65 ++ [(⟨(w64 y84), x91, x96⟩ : T_api_Ins)])))
noncomputable def F_ins_Get_J5 (x65 : (List T_api_Ins)) (y84 : Int) (x91 : Int) (x94 : ByteArray) (x95 : Int) (x96 : Int) (x109 : Bool) : Option ((ByteArray × Int × (List T_api_Ins)) ⊕ ((List T_api_Ins) × Int)) :=
  cond x109 ((F_wire_Reader_Fail 3 (⟨x94, x95⟩ : T_wire_Reader)).bind fun y111 => F_ins_Get_J4 x65 y84 x91 x96 y111.s y111.e) (F_ins_Get_J4 x65 y84 x91 x96 x94 x95)
noncomputable def F_ins_Get_J3 (x65 : (List T_api_Ins)) (y84 : Int) (y86 : T_ins_row × Bool) (x91 : Int) (x94 : ByteArray) (x95 : Int) (x96 : Int) : Option ((ByteArray × Int × (List T_api_Ins)) ⊕ ((List T_api_Ins) × Int)) :=
  cond (!y86.2) (F_ins_Get_J5 x65 y84 x91 x94 x95 x96 true) ((F_ins_Right (⟨(w64 y84), x91, x96⟩ : T_api_Ins)).bind fun y113 => F_ins_Get_J5 x65 y84 x91 x94 x95 x96 (!y113))
noncomputable def F_ins_Get_J2 (x65 : (List T_api_Ins)) (y84 : Int) (y86 : T_ins_row × Bool) (x89 : ByteArray) (x90 : Int) (x91 : Int) : Option ((ByteArray × Int × (List T_api_Ins)) ⊕ ((List T_api_Ins) × Int)) :=
  cond (decide (1 < y86.1.nums)) ((F_wire_Reader_Int (⟨x89, x90⟩ : T_wire_Reader)).bind fun y115 => F_ins_Get_J3 x65 y84 y86 x91 y115.2.s y115.2.e y115.1) (F_ins_Get_J3 x65 y84 y86 x91 x89 x90 0)
noncomputable def F_ins_Get_J1 (x63 : ByteArray) (x64 : Int) (x65 : (List T_api_Ins)) (x79 : Bool) : Option ((ByteArray × Int × (List T_api_Ins)) ⊕ ((List T_api_Ins) × Int)) :=
  cond x79 ((F_wire_Reader_Raw 1 (⟨x63, x64⟩ : T_wire_Reader)).bind fun y83 => (sAt y83.1 0).bind fun y84 => (F_ins_find (w64 y84)).bind fun y86 => cond (decide (0 < y86.1.nums)) ((F_wire_Reader_Int y83.2).bind fun y117 => F_ins_Get_J2 x65 y84 y86 y117.2.s y117.2.e y117.1) (F_ins_Get_J2 x65 y84 y86 y83.2.s y83.2.e 0)) (((F_wire_Reader_Err (⟨x63, x64⟩ : T_wire_Reader)).bind fun y124 => cond (y124 != 0) (some (([] : List T_api_Ins), y124)) (some (x65, 0))).map Sum.inr)
noncomputable def F_ins_Get_L6 (x63 : ByteArray) (x64 : Int) (x65 : (List T_api_Ins)) : Option ((ByteArray × Int × (List T_api_Ins)) ⊕ ((List T_api_Ins) × Int)) :=
  (F_wire_Reader_Left (⟨x63, x64⟩ : T_wire_Reader)).bind fun y126 => cond (decide (0 < y126)) ((F_wire_Reader_Err (⟨x63, x64⟩ : T_wire_Reader)).bind fun y128 => F_ins_Get_J1 x63 x64 x65 (y128 == 0)) (F_ins_Get_J1 x63 x64 x65 false)
noncomputable def F_ins_Get (p0 : ByteArray) : Option ((List T_api_Ins) × Int) :=
  (F_wire_Open p0).bind fun y2 => Loop (fun s : (ByteArray × Int × (List T_api_Ins)) => F_ins_Get_L6 s.1 s.2.1 s.2.2) (y2.s, y2.e, ([] : (List T_api_Ins)))
/- image_Get -/
noncomputable def F_image_Get (p0 : ByteArray) : Option (T_api_Code × Int) :=
  (F_crc_Open p0).bind fun y2 => cond (y2.2 != 0) (some ((⟨([] : List T_api_Ins), ([] : List T_api_Def), ([] : List T_api_Chan), 0, 0⟩ : T_api_Code), y2.2)) ((F_strings_CutPrefix y2.1 (⟨#[82, 84, 67, 49]⟩ : ByteArray)).bind fun y6 => cond (!y6.2) (some ((⟨([] : List T_api_Ins), ([] : List T_api_Def), ([] : List T_api_Chan), 0, 0⟩ : T_api_Code), 3)) ((F_wire_Open y6.1).bind fun y10 => (F_image_rows_retrace_api_Def 32 y10).bind fun y13 => (F_image_rows_retrace_api_Chan 64 y13.2).bind fun y14 => (F_image_reader_num y14.2).bind fun y17 => (F_image_reader_num y17.2).bind fun y18 => (F_wire_Reader_Text 2097152 y18.2).bind fun y20 => (F_wire_Reader_End y20.2).bind fun y25 => cond (y25 != 0) (some ((⟨([] : List T_api_Ins), ([] : List T_api_Def), ([] : List T_api_Chan), 0, 0⟩ : T_api_Code), y25)) ((F_ins_Get y20.1).bind fun y31 => cond (y31.2 != 0) (some ((⟨([] : List T_api_Ins), ([] : List T_api_Def), ([] : List T_api_Chan), 0, 0⟩ : T_api_Code), y31.2)) ((F_code_Check (⟨y31.1, y13.1, y14.1, y17.1, y18.1⟩ : T_api_Code)).bind fun y37 => cond (y37.2 != 0) (some ((⟨([] : List T_api_Ins), ([] : List T_api_Def), ([] : List T_api_Chan), 0, 0⟩ : T_api_Code), y37.2)) (some ((⟨y31.1, y13.1, y14.1, y17.1, y18.1⟩ : T_api_Code), 0))))))
/- retraceref19_Same -/
noncomputable def F_retraceref19_Same_L2 (p0 : T_api_Code) (p1 : T_api_Code) (x112 : Int) : Option ((Int) ⊕ (Bool)) :=
  cond (decide (x112 < ((p0.Chans).length : Int))) ((lAt p0.Chans x112).bind fun y124 => (lAt p1.Chans x112).bind fun y125 => cond (!((y124.Name.toList == y125.Name.toList) && ((y124.Base == y125.Base) && ((y124.Size == y125.Size) && true)))) ((some false).map Sum.inr) (some (.inl (w64 (x112 + 1))))) ((some true).map Sum.inr)
noncomputable def F_retraceref19_Same_L3 (p0 : T_api_Code) (p1 : T_api_Code) (x74 : Int) : Option ((Int) ⊕ (Bool)) :=
  cond (decide (x74 < ((p0.Defs).length : Int))) ((lAt p0.Defs x74).bind fun y86 => (lAt p1.Defs x74).bind fun y87 => cond (!((y86.Name.toList == y87.Name.toList) && ((y86.Entry == y87.Entry) && ((y86.Params == y87.Params) && ((y86.Vars == y87.Vars) && true))))) ((some false).map Sum.inr) (some (.inl (w64 (x74 + 1))))) ((Loop (fun s : (Int) => F_retraceref19_Same_L2 p0 p1 s) 0).map Sum.inr)
noncomputable def F_retraceref19_Same_L4 (p0 : T_api_Code) (p1 : T_api_Code) (x36 : Int) : Option ((Int) ⊕ (Bool)) :=
  cond (decide (x36 < ((p0.Ins).length : Int))) ((lAt p0.Ins x36).bind fun y48 => (lAt p1.Ins x36).bind fun y49 => cond (!((y48.Op == y49.Op) && ((y48.A == y49.A) && ((y48.B == y49.B) && true)))) ((some false).map Sum.inr) (some (.inl (w64 (x36 + 1))))) ((Loop (fun s : (Int) => F_retraceref19_Same_L3 p0 p1 s) 0).map Sum.inr)
noncomputable def F_retraceref19_Same_J1 (p0 : T_api_Code) (p1 : T_api_Code) (x15 : Bool) : Option (Bool) :=
  cond x15 (some false) (Loop (fun s : (Int) => F_retraceref19_Same_L4 p0 p1 s) 0)
noncomputable def F_retraceref19_Same (p0 : T_api_Code) (p1 : T_api_Code) : Option (Bool) :=
  cond (((p0.Ins).length : Int) != ((p1.Ins).length : Int)) (F_retraceref19_Same_J1 p0 p1 true) (cond (((p0.Defs).length : Int) != ((p1.Defs).length : Int)) (F_retraceref19_Same_J1 p0 p1 true) (cond (((p0.Chans).length : Int) != ((p1.Chans).length : Int)) (F_retraceref19_Same_J1 p0 p1 true) (cond (p0.Main != p1.Main) (F_retraceref19_Same_J1 p0 p1 true) (F_retraceref19_Same_J1 p0 p1 (p0.Stmts != p1.Stmts)))))
/- retracelaw21_live -/
noncomputable def F_retracelaw21_live_J1 (x11 : Bool) : Option (Bool) :=
  some x11
noncomputable def F_retracelaw21_live  : Option (Bool) :=
  (F_retraceref19_Text (⟨#[109, 97, 105, 110, 32, 123, 32, 125]⟩ : ByteArray)).bind fun y2 => (F_image_Put y2.C).bind fun y4 => (F_image_Get y4.1).bind fun y6 => cond (y4.2 == 0) (cond ((y4.1.size : Int) == 22) (cond (y6.2 == 0) ((F_retraceref19_Same y6.1 y2.C).bind fun y15 => F_retracelaw21_live_J1 y15) (F_retracelaw21_live_J1 false)) (F_retracelaw21_live_J1 false)) (F_retracelaw21_live_J1 false)
/- retraceref02_push -/
noncomputable def F_retraceref02_push_J1 (x57 : Int) (x63 : Int) : Option ((Int × Int) ⊕ ((Int × Int) ⊕ (Int))) :=
  some (.inl (x63, (w64 (x57 + 1))))
noncomputable def F_retraceref02_push_L2 (x36 : Int) (x56 : Int) (x57 : Int) : Option ((Int × Int) ⊕ ((Int × Int) ⊕ (Int))) :=
  cond (decide (x57 < 8)) (cond ((Int.tmod x56 2) == 1) (F_retraceref02_push_J1 x57 (bits .xor .u32 (wu32 (Int.tdiv x56 2)) 3988292384)) (F_retraceref02_push_J1 x57 (wu32 (Int.tdiv x56 2)))) ((some (.inl (x56, (w64 (x36 + 1))))).map Sum.inr)
noncomputable def F_retraceref02_push_L3 (p1 : ByteArray) (x35 : Int) (x36 : Int) : Option ((Int × Int) ⊕ (Int)) :=
  cond (decide (x36 < (p1.size : Int))) ((sAt p1 x36).bind fun y55 => Loop (fun s : (Int × Int) => F_retraceref02_push_L2 x36 s.1 s.2) ((bits .xor .u32 x35 (wu32 y55)), 0)) ((some x35).map Sum.inr)
noncomputable def F_retraceref02_push (p0 : Int) (p1 : ByteArray) : Option (Int) :=
  Loop (fun s : (Int × Int) => F_retraceref02_push_L3 p1 s.1 s.2) (p0, 0)
/- retraceref02_Sum -/
noncomputable def F_retraceref02_Sum (p0 : ByteArray) : Option (Int) :=
  (F_retraceref02_push 4294967295 p0).bind fun y2 => some (bits .xor .u32 y2 4294967295)
/- retraceref02_Bytes -/
noncomputable def F_retraceref02_Bytes (p0 : Int) : Option (ByteArray) :=
  some (strOfNums ([(wu8 (Int.tmod p0 256)), (wu8 (Int.tmod (wu32 (Int.tdiv p0 256)) 256)), (wu8 (Int.tmod (wu32 (Int.tdiv p0 65536)) 256)), (wu8 (wu32 (Int.tdiv p0 16777216)))]))
/- retraceref01_Get -/
noncomputable def F_retraceref01_Get_J2 (p1 : Int) (x75 : Int) (x76 : Int) (x77 : Int) (y113 : Int) (x128 : Bool) : Option ((Int × Int × Int) ⊕ (T_retraceref01_Got)) :=
  cond x128 ((some (⟨0, 0, 3⟩ : T_retraceref01_Got)).map Sum.inr) (cond (decide (y113 < 128)) ((some (⟨(wu64 (x75 + (wu64 ((wu64 (Int.tmod y113 128)) * x76)))), (w64 ((w64 (p1 + x77)) + 1)), 0⟩ : T_retraceref01_Got)).map Sum.inr) (some (.inl ((wu64 (x75 + (wu64 ((wu64 (Int.tmod y113 128)) * x76)))), (wu64 (x76 * 128)), (w64 (x77 + 1))))))
noncomputable def F_retraceref01_Get_L3 (p0 : ByteArray) (p1 : Int) (x75 : Int) (x76 : Int) (x77 : Int) : Option ((Int × Int × Int) ⊕ (T_retraceref01_Got)) :=
  cond (decide (x77 < 10)) (cond (decide ((p0.size : Int) ≤ (w64 (p1 + x77)))) ((some (⟨0, 0, 2⟩ : T_retraceref01_Got)).map Sum.inr) ((sAt p0 (w64 (p1 + x77))).bind fun y113 => cond (x77 == 9) (cond (decide (1 < y113)) (F_retraceref01_Get_J2 p1 x75 x76 x77 y113 true) (cond (y113 == 0) (F_retraceref01_Get_J2 p1 x75 x76 x77 y113 (decide (0 < x77))) (F_retraceref01_Get_J2 p1 x75 x76 x77 y113 false))) (cond (y113 == 0) (F_retraceref01_Get_J2 p1 x75 x76 x77 y113 (decide (0 < x77))) (F_retraceref01_Get_J2 p1 x75 x76 x77 y113 false)))) ((some (⟨0, 0, 3⟩ : T_retraceref01_Got)).map Sum.inr)
noncomputable def F_retraceref01_Get_J1 (p0 : ByteArray) (p1 : Int) (x6 : Bool) : Option (T_retraceref01_Got) :=
  cond x6 (some (⟨0, 0, 1⟩ : T_retraceref01_Got)) (Loop (fun s : (Int × Int × Int) => F_retraceref01_Get_L3 p0 p1 s.1 s.2.1 s.2.2) (0, 1, 0))
noncomputable def F_retraceref01_Get (p0 : ByteArray) (p1 : Int) : Option (T_retraceref01_Got) :=
  cond (decide (p1 < 0)) (F_retraceref01_Get_J1 p0 p1 true) (F_retraceref01_Get_J1 p0 p1 (decide ((p0.size : Int) < p1)))
/- retraceref03_Reader_fail -/
noncomputable def F_retraceref03_Reader_fail (p1 : Int) (o0 : T_retraceref03_Reader) : Option (T_retraceref03_Reader) :=
  cond (o0.Bad == 0) (some (⟨o0.S, p1⟩ : T_retraceref03_Reader)) (some o0)
/- retraceref03_Reader_Num -/
noncomputable def F_retraceref03_Reader_Num (o0 : T_retraceref03_Reader) : Option (Int × T_retraceref03_Reader) :=
  cond (o0.Bad != 0) (some (0, o0)) ((F_retraceref01_Get o0.S 0).bind fun y4 => cond (y4.E != 0) ((F_retraceref03_Reader_fail y4.E o0).bind fun y10 => some (0, y10)) (grd ((0 : Int) ≤ y4.Next ∧ (y4.Next : Int) ≤ (o0.S.size : Int) ∧ (o0.S.size : Int) ≤ (o0.S.size : Int)) <| some (y4.U, (⟨(o0.S.extract (Int.toNat y4.Next) (Int.toNat (o0.S.size : Int))), o0.Bad⟩ : T_retraceref03_Reader))))
/- retraceref03_Reader_Upto -/
noncomputable def F_retraceref03_Reader_Upto_J1 (o0 : T_retraceref03_Reader) (y2 : Int × T_retraceref03_Reader) (x13 : Bool) : Option (Int × T_retraceref03_Reader) :=
  cond x13 ((F_retraceref03_Reader_fail 6 (⟨o0.S, y2.2.Bad⟩ : T_retraceref03_Reader)).bind fun y16 => some (0, y16)) (some ((w64 y2.1), y2.2))
noncomputable def F_retraceref03_Reader_Upto (p1 : Int) (o0 : T_retraceref03_Reader) : Option (Int × T_retraceref03_Reader) :=
  (F_retraceref03_Reader_Num o0).bind fun y2 => cond (y2.2.Bad == 0) (cond (decide (p1 < 0)) (F_retraceref03_Reader_Upto_J1 o0 y2 true) (F_retraceref03_Reader_Upto_J1 o0 y2 (decide ((wu64 p1) < y2.1)))) (F_retraceref03_Reader_Upto_J1 o0 y2 false)
/- retraceref03_Reader_Raw -/
noncomputable def F_retraceref03_Reader_Raw (p1 : Int) (o0 : T_retraceref03_Reader) : Option (ByteArray × T_retraceref03_Reader) :=
  cond (o0.Bad != 0) (some ((⟨#[]⟩ : ByteArray), o0)) (cond (decide (p1 < 0)) ((F_retraceref03_Reader_fail 1 o0).bind fun y8 => some ((⟨#[]⟩ : ByteArray), y8)) (cond (decide ((o0.S.size : Int) < p1)) ((F_retraceref03_Reader_fail 2 o0).bind fun y14 => some ((⟨#[]⟩ : ByteArray), y14)) (grd ((0 : Int) ≤ 0 ∧ (0 : Int) ≤ p1 ∧ p1 ≤ (o0.S.size : Int)) <| grd ((0 : Int) ≤ p1 ∧ (p1 : Int) ≤ (o0.S.size : Int) ∧ (o0.S.size : Int) ≤ (o0.S.size : Int)) <| some ((o0.S.extract (Int.toNat 0) (Int.toNat p1)), (⟨(o0.S.extract (Int.toNat p1) (Int.toNat (o0.S.size : Int))), o0.Bad⟩ : T_retraceref03_Reader)))))
/- retraceref03_Reader_Text -/
noncomputable def F_retraceref03_Reader_Text (p1 : Int) (o0 : T_retraceref03_Reader) : Option (ByteArray × T_retraceref03_Reader) :=
  (F_retraceref03_Reader_Upto p1 o0).bind fun y2 => (F_retraceref03_Reader_Raw y2.1 y2.2).bind fun y4 => some (y4.1, y4.2)
/- retraceref03_Reader_End -/
noncomputable def F_retraceref03_Reader_End_J1 (o0 : T_retraceref03_Reader) (x6 : Bool) : Option (Int) :=
  cond x6 (some 3) (some o0.Bad)
noncomputable def F_retraceref03_Reader_End (o0 : T_retraceref03_Reader) : Option (Int) :=
  cond (o0.Bad == 0) (F_retraceref03_Reader_End_J1 o0 (decide (0 < (o0.S.size : Int)))) (F_retraceref03_Reader_End_J1 o0 false)
/- retraceref16_Nums -/
noncomputable def F_retraceref16_Nums_J2 (x49 : Bool) : Option (Int) :=
  cond x49 (some 1) (some 0)
noncomputable def F_retraceref16_Nums_J1 (p0 : Int) (x35 : Bool) : Option (Int) :=
  cond x35 (some 2) (cond (p0 == 1) (F_retraceref16_Nums_J2 (p0 == 1)) (cond (p0 == 2) (F_retraceref16_Nums_J2 (p0 == 2)) (cond (p0 == 3) (F_retraceref16_Nums_J2 (p0 == 3)) (cond (p0 == 4) (F_retraceref16_Nums_J2 (p0 == 4)) (cond (p0 == 5) (F_retraceref16_Nums_J2 (p0 == 5)) (cond (p0 == 6) (F_retraceref16_Nums_J2 (p0 == 6)) (cond (p0 == 7) (F_retraceref16_Nums_J2 (p0 == 7)) (cond (p0 == 8) (F_retraceref16_Nums_J2 (p0 == 8)) (cond (p0 == 11) (F_retraceref16_Nums_J2 (p0 == 11)) (cond (p0 == 12) (F_retraceref16_Nums_J2 (p0 == 12)) (cond (p0 == 20) (F_retraceref16_Nums_J2 (p0 == 20)) (cond (p0 == 21) (F_retraceref16_Nums_J2 (p0 == 21)) (F_retraceref16_Nums_J2 (p0 == 22))))))))))))))
noncomputable def F_retraceref16_Nums (p0 : Int) : Option (Int) :=
  cond (p0 == 9) (F_retraceref16_Nums_J1 p0 (p0 == 9)) (cond (p0 == 14) (F_retraceref16_Nums_J1 p0 (p0 == 14)) (F_retraceref16_Nums_J1 p0 (p0 == 19)))
/- retraceref01_Zag -/
noncomputable def F_retraceref01_Zag (p0 : Int) : Option (Int) :=
  cond ((Int.tmod p0 2) == 1) (some (w64 ((w64 (0 - (w64 (wu64 (Int.tdiv p0 2))))) - 1))) (some (w64 (wu64 (Int.tdiv p0 2))))
/- retraceref16_Right -/
noncomputable def F_retraceref16_Right_J2 (x45 : Bool) : Option (Bool) :=
  cond x45 (some false) (some true)
noncomputable def F_retraceref16_Right_J1 (p0 : T_api_Ins) (x23 : Bool) : Option (Bool) :=
  cond x23 (some false) (cond (p0.Op == 14) (cond (decide (p0.B < 0)) (F_retraceref16_Right_J2 true) (cond (p0.Op == 5) (cond (decide (p0.A < 3)) (F_retraceref16_Right_J2 true) (F_retraceref16_Right_J2 (decide (17 < p0.A)))) (F_retraceref16_Right_J2 false))) (cond (p0.Op == 5) (cond (decide (p0.A < 3)) (F_retraceref16_Right_J2 true) (F_retraceref16_Right_J2 (decide (17 < p0.A)))) (F_retraceref16_Right_J2 false)))
noncomputable def F_retraceref16_Right (p0 : T_api_Ins) : Option (Bool) :=
  (F_retraceref16_Nums p0.Op).bind fun y2 => cond (decide (p0.Op < 1)) (F_retraceref16_Right_J1 p0 true) (cond (decide (25 < p0.Op)) (F_retraceref16_Right_J1 p0 true) (cond (y2 == 0) (cond (p0.A != 0) (F_retraceref16_Right_J1 p0 true) (cond (decide (y2 < 2)) (F_retraceref16_Right_J1 p0 (p0.B != 0)) (F_retraceref16_Right_J1 p0 false))) (cond (decide (y2 < 2)) (F_retraceref16_Right_J1 p0 (p0.B != 0)) (F_retraceref16_Right_J1 p0 false))))
/- retraceref16_Get -/
noncomputable def F_retraceref16_Get_L1 (p0 : ByteArray) (x83 : (List T_api_Ins)) (y89 : Int) (y91 : Int) (x119 : Int) (x120 : Int) (x121 : (List Int)) : Option ((Int × Int × (List Int)) ⊕ ((Int × (List T_api_Ins)) ⊕ (T_retraceref16_Got))) :=
  cond (decide (x120 < y91)) ((F_retraceref01_Get p0 x119).bind fun y135 => cond (y135.E != 0) (((some (⟨([] : List T_api_Ins), y135.E⟩ : T_retraceref16_Got)).map Sum.inr).map Sum.inr) ((F_retraceref01_Zag y135.U).bind fun y144 => grd ((0 : Int) ≤ x120 ∧ x120 < 2 ∧ Int.toNat x120 < (x121).length) <| some (.inl (y135.Next, (w64 (x120 + 1)), (List.set x121 (Int.toNat x120) y144))))) (((aAt 2 x121 0).bind fun y150 => (aAt 2 x121 1).bind fun y151 => (F_retraceref16_Right (⟨(w64 y89), y150, y151⟩ : T_api_Ins)).bind fun y156 => cond (!y156) ((some (⟨([] : List T_api_Ins), 3⟩ : T_retraceref16_Got)).map Sum.inr) (grd (((x83).length + ([(⟨(w64 y89), y150, y151⟩ : T_api_Ins)]).length) * 24 ≤ 140737488355328) <| some (.inl (x119, (x83 ++ [(⟨(w64 y89), y150, y151⟩ : T_api_Ins)]))))).map Sum.inr)
noncomputable def F_retraceref16_Get_L2 (p0 : ByteArray) (x82 : Int) (x83 : (List T_api_Ins)) : Option ((Int × (List T_api_Ins)) ⊕ (T_retraceref16_Got)) :=
  cond (decide (x82 < (p0.size : Int))) ((sAt p0 x82).bind fun y89 => (F_retraceref16_Nums (w64 y89)).bind fun y91 => Loop (fun s : (Int × Int × (List Int)) => F_retraceref16_Get_L1 p0 x83 y89 y91 s.1 s.2.1 s.2.2) ((w64 (x82 + 1)), 0, (List.replicate 2 (0 : Int)))) ((some (⟨x83, 0⟩ : T_retraceref16_Got)).map Sum.inr)
noncomputable def F_retraceref16_Get (p0 : ByteArray) : Option (T_retraceref16_Got) :=
  Loop (fun s : (Int × (List T_api_Ins)) => F_retraceref16_Get_L2 p0 s.1 s.2) (0, ([] : (List T_api_Ins)))
/- retraceref20_tables -/
noncomputable def F_retraceref20_tables_J3 (x210 : Int) (x370 : Bool) : Option ((Int) ⊕ (Bool)) :=
  cond x370 ((some false).map Sum.inr) (some (.inl (w64 (x210 + 1))))
noncomputable def F_retraceref20_tables_J2 (x210 : Int) (y304 : T_api_Def) (x364 : Bool) : Option ((Int) ⊕ (Bool)) :=
  cond x364 ((some false).map Sum.inr) (cond (decide (y304.Params < 0)) (F_retraceref20_tables_J3 x210 true) (cond (decide (y304.Vars < y304.Params)) (F_retraceref20_tables_J3 x210 true) (F_retraceref20_tables_J3 x210 (decide (16 < y304.Vars)))))
noncomputable def F_retraceref20_tables_J4 (x463 : Int) (x495 : Int) : Option ((Int × Int) ⊕ (Bool)) :=
  some (.inl (x495, (w64 (x463 + 1))))
noncomputable def F_retraceref20_tables_J5 (x462 : Int) (x463 : Int) (y497 : T_api_Chan) (x515 : Bool) : Option ((Int × Int) ⊕ (Bool)) :=
  cond x515 ((some false).map Sum.inr) (cond (y497.Size == 0) (F_retraceref20_tables_J4 x463 (w64 ((w64 (x462 + y497.Size)) + 1))) (F_retraceref20_tables_J4 x463 (w64 (x462 + y497.Size))))
noncomputable def F_retraceref20_tables_L6 (p0 : T_api_Code) (x462 : Int) (x463 : Int) : Option ((Int × Int) ⊕ (Bool)) :=
  cond (decide (x463 < ((p0.Chans).length : Int))) ((lAt p0.Chans x463).bind fun y497 => (F_retraceref08_Name y497.Name).bind fun y520 => cond (!y520) (F_retraceref20_tables_J5 x462 x463 y497 true) (cond (decide (y497.Size < 0)) (F_retraceref20_tables_J5 x462 x463 y497 true) (cond (decide (16 < y497.Size)) (F_retraceref20_tables_J5 x462 x463 y497 true) (cond (y497.Base != x462) (F_retraceref20_tables_J5 x462 x463 y497 true) (F_retraceref20_tables_J5 x462 x463 y497 (decide (64 ≤ x462))))))) ((some (decide (x462 ≤ 64))).map Sum.inr)
noncomputable def F_retraceref20_tables_L7 (p0 : T_api_Code) (x210 : Int) : Option ((Int) ⊕ (Bool)) :=
  cond (decide (x210 < ((p0.Defs).length : Int))) ((lAt p0.Defs x210).bind fun y304 => cond (!(y304.Name.toList == (⟨#[109, 97, 105, 110]⟩ : ByteArray).toList)) ((F_retraceref08_Name y304.Name).bind fun y377 => cond (!y377) (F_retraceref20_tables_J2 x210 y304 true) (cond (decide (y304.Entry < 0)) (F_retraceref20_tables_J2 x210 y304 true) (cond (decide (((p0.Ins).length : Int) ≤ y304.Entry)) (F_retraceref20_tables_J2 x210 y304 true) (cond (x210 == 0) (cond (y304.Entry != 0) (F_retraceref20_tables_J2 x210 y304 true) (cond (decide (0 < x210)) ((lAt p0.Defs (w64 (x210 - 1))).bind fun y384 => F_retraceref20_tables_J2 x210 y304 (decide (y304.Entry ≤ y384.Entry))) (F_retraceref20_tables_J2 x210 y304 false))) (cond (decide (0 < x210)) ((lAt p0.Defs (w64 (x210 - 1))).bind fun y386 => F_retraceref20_tables_J2 x210 y304 (decide (y304.Entry ≤ y386.Entry))) (F_retraceref20_tables_J2 x210 y304 false)))))) (cond (decide (y304.Entry < 0)) (F_retraceref20_tables_J2 x210 y304 true) (cond (decide (((p0.Ins).length : Int) ≤ y304.Entry)) (F_retraceref20_tables_J2 x210 y304 true) (cond (x210 == 0) (cond (y304.Entry != 0) (F_retraceref20_tables_J2 x210 y304 true) (cond (decide (0 < x210)) ((lAt p0.Defs (w64 (x210 - 1))).bind fun y392 => F_retraceref20_tables_J2 x210 y304 (decide (y304.Entry ≤ y392.Entry))) (F_retraceref20_tables_J2 x210 y304 false))) (cond (decide (0 < x210)) ((lAt p0.Defs (w64 (x210 - 1))).bind fun y394 => F_retraceref20_tables_J2 x210 y304 (decide (y304.Entry ≤ y394.Entry))) (F_retraceref20_tables_J2 x210 y304 false)))))) ((Loop (fun s : (Int × Int) => F_retraceref20_tables_L6 p0 s.1 s.2) (0, 0)).map Sum.inr)
noncomputable def F_retraceref20_tables_J1 (p0 : T_api_Code) (x21 : Bool) : Option (Bool) :=
  cond x21 (some false) (Loop (fun s : (Int) => F_retraceref20_tables_L7 p0 s) 0)
noncomputable def F_retraceref20_tables (p0 : T_api_Code) : Option (Bool) :=
  cond (decide (((p0.Defs).length : Int) < 1)) (F_retraceref20_tables_J1 p0 true) (cond (decide (32 < ((p0.Defs).length : Int))) (F_retraceref20_tables_J1 p0 true) (cond (decide (65536 < ((p0.Ins).length : Int))) (F_retraceref20_tables_J1 p0 true) (cond (decide (p0.Main < 0)) (F_retraceref20_tables_J1 p0 true) (cond (decide (((p0.Defs).length : Int) ≤ p0.Main)) (F_retraceref20_tables_J1 p0 true) ((lAt p0.Defs p0.Main).bind fun y532 => F_retraceref20_tables_J1 p0 (y532.Params != 0))))))
/- retraceref20_To -/
noncomputable def F_retraceref20_To (p0 : T_api_Code) (p1 : Int) : Option (Int) :=
  cond (decide ((w64 (p1 + 1)) < ((p0.Defs).length : Int))) ((lAt p0.Defs (w64 (p1 + 1))).bind fun y6 => some y6.Entry) (some ((p0.Ins).length : Int))
/- retraceref20_channel -/
noncomputable def F_retraceref20_channel_J1 (x26 : Int) (x42 : Bool) : Option ((Int) ⊕ (Bool)) :=
  cond x42 ((some true).map Sum.inr) (some (.inl (w64 (x26 + 1))))
noncomputable def F_retraceref20_channel_L2 (p0 : T_api_Code) (p1 : Int) (p2 : Int) (x26 : Int) : Option ((Int) ⊕ (Bool)) :=
  cond (decide (x26 < ((p0.Chans).length : Int))) ((lAt p0.Chans x26).bind fun y46 => cond (y46.Base == p1) ((lAt p0.Chans x26).bind fun y48 => F_retraceref20_channel_J1 x26 (y48.Size == p2)) (F_retraceref20_channel_J1 x26 false)) ((some false).map Sum.inr)
noncomputable def F_retraceref20_channel (p0 : T_api_Code) (p1 : Int) (p2 : Int) : Option (Bool) :=
  Loop (fun s : (Int) => F_retraceref20_channel_L2 p0 p1 p2 s) 0
/- retraceref20_target -/
noncomputable def F_retraceref20_target (p0 : T_api_Ins) : Option (Int × Bool) :=
  (F_retraceref17_Which p0.Op).bind fun y6 => cond (y6 == 1) (some (p0.A, true)) (cond (y6 == 2) (some (p0.B, true)) (some (0, false)))
/- retraceref20_Chooses -/
noncomputable def F_retraceref20_Chooses_J1 (x2 : Bool) : Option (Bool) :=
  some x2
noncomputable def F_retraceref20_Chooses (p0 : Int) : Option (Bool) :=
  cond (decide (19 ≤ p0)) (F_retraceref20_Chooses_J1 (decide (p0 ≤ 22))) (F_retraceref20_Chooses_J1 false)
/- retraceref20_Settle -/
noncomputable def F_retraceref20_Settle_J1 (p0 : T_api_Code) (x45 : Int) (x46 : Int) (x79 : Bool) : Option ((Int × Int) ⊕ (Int)) :=
  cond x79 ((some x45).map Sum.inr) ((lAt p0.Ins x45).bind fun y83 => some (.inl (y83.A, (w64 (x46 + 1)))))
noncomputable def F_retraceref20_Settle_L2 (p0 : T_api_Code) (p1 : Int) (x45 : Int) (x46 : Int) : Option ((Int × Int) ⊕ (Int)) :=
  cond (decide (x46 ≤ ((p0.Ins).length : Int))) (cond (decide (x45 < 0)) (F_retraceref20_Settle_J1 p0 x45 x46 true) (cond (decide (((p0.Ins).length : Int) ≤ x45)) (F_retraceref20_Settle_J1 p0 x45 x46 true) ((lAt p0.Ins x45).bind fun y86 => F_retraceref20_Settle_J1 p0 x45 x46 (y86.Op != 6)))) ((some p1).map Sum.inr)
noncomputable def F_retraceref20_Settle (p0 : T_api_Code) (p1 : Int) : Option (Int) :=
  Loop (fun s : (Int × Int) => F_retraceref20_Settle_L2 p0 p1 s.1 s.2) (p1, 0)
/- retraceref20_rests -/
noncomputable def F_retraceref20_rests_J1 (x10 : Bool) : Option (Bool) :=
  some x10
noncomputable def F_retraceref20_rests (p0 : T_api_Code) (p1 : Int) (p2 : Int) : Option (Bool) :=
  (F_retraceref20_Settle p0 p2).bind fun y2 => (lAt p0.Defs p1).bind fun y11 => cond (decide (y11.Entry ≤ y2)) ((F_retraceref20_To p0 p1).bind fun y13 => cond (decide (y2 < y13)) ((lAt p0.Ins y2).bind fun y15 => cond (y15.Op == 1) (F_retraceref20_rests_J1 true) ((lAt p0.Ins y2).bind fun y17 => F_retraceref20_rests_J1 (y17.Op == 24))) (F_retraceref20_rests_J1 false)) (F_retraceref20_rests_J1 false)
/- retraceref20_Acts -/
noncomputable def F_retraceref20_Acts_J1 (x5 : Bool) : Option (Bool) :=
  some x5
noncomputable def F_retraceref20_Acts (p0 : Int) : Option (Bool) :=
  cond (p0 == 4) (F_retraceref20_Acts_J1 true) (cond (p0 == 10) (F_retraceref20_Acts_J1 true) (cond (p0 == 11) (F_retraceref20_Acts_J1 true) (cond (decide (12 ≤ p0)) (F_retraceref20_Acts_J1 (decide (p0 ≤ 17))) (F_retraceref20_Acts_J1 false))))
/- retraceref20_may -/
noncomputable def F_retraceref20_may_J7 (x130 : Bool) : Option (Bool) :=
  some x130
noncomputable def F_retraceref20_may_J6 (p0 : T_api_Code) (p1 : Int) (p2 : Int) (y4 : T_api_Ins) : Option (Bool) :=
  (F_retraceref20_Acts y4.Op).bind fun y131 => cond (!y131) (F_retraceref20_may_J7 true) ((F_retraceref20_rests p0 p1 (w64 (p2 + 1))).bind fun y133 => F_retraceref20_may_J7 y133)
noncomputable def F_retraceref20_may_J8 (p0 : T_api_Code) (p1 : Int) (p2 : Int) (y4 : T_api_Ins) (x148 : Bool) : Option (Bool) :=
  cond x148 (some false) (F_retraceref20_may_J6 p0 p1 p2 y4)
noncomputable def F_retraceref20_may_J5 (p0 : T_api_Code) (p1 : Int) (p2 : Int) (y4 : T_api_Ins) (y5 : T_api_Def) (y6 : Int) (x98 : Bool) : Option (Bool) :=
  cond x98 (some false) ((F_retraceref20_target y4).bind fun y135 => cond y135.2 (cond (decide (y135.1 < y5.Entry)) (F_retraceref20_may_J8 p0 p1 p2 y4 true) (cond (decide (y6 ≤ y135.1)) (F_retraceref20_may_J8 p0 p1 p2 y4 true) (cond (decide (y135.1 ≤ p2)) ((lAt p0.Ins y135.1).bind fun y153 => cond (y153.Op != 1) (F_retraceref20_may_J8 p0 p1 p2 y4 true) ((F_retraceref20_Chooses y4.Op).bind fun y155 => cond y155 ((F_retraceref20_rests p0 p1 y135.1).bind fun y157 => F_retraceref20_may_J8 p0 p1 p2 y4 (!y157)) (F_retraceref20_may_J8 p0 p1 p2 y4 false))) ((F_retraceref20_Chooses y4.Op).bind fun y158 => cond y158 ((F_retraceref20_rests p0 p1 y135.1).bind fun y160 => F_retraceref20_may_J8 p0 p1 p2 y4 (!y160)) (F_retraceref20_may_J8 p0 p1 p2 y4 false))))) (F_retraceref20_may_J6 p0 p1 p2 y4))
noncomputable def F_retraceref20_may_J4 (p0 : T_api_Code) (p1 : Int) (p2 : Int) (y4 : T_api_Ins) (y5 : T_api_Def) (y6 : Int) (x82 : Bool) : Option (Bool) :=
  cond x82 (some false) (cond (y4.Op == 14) (cond (decide (y4.A < 0)) (F_retraceref20_may_J5 p0 p1 p2 y4 y5 y6 true) (cond (decide (((p0.Defs).length : Int) ≤ y4.A)) (F_retraceref20_may_J5 p0 p1 p2 y4 y5 y6 true) ((lAt p0.Defs y4.A).bind fun y164 => F_retraceref20_may_J5 p0 p1 p2 y4 y5 y6 (y4.B != y164.Params)))) (F_retraceref20_may_J5 p0 p1 p2 y4 y5 y6 false))
noncomputable def F_retraceref20_may_J3 (p0 : T_api_Code) (p1 : Int) (p2 : Int) (y4 : T_api_Ins) (y5 : T_api_Def) (y6 : Int) (x55 : Bool) : Option (Bool) :=
  cond x55 (cond (decide (y4.A < 0)) (F_retraceref20_may_J4 p0 p1 p2 y4 y5 y6 true) ((lAt p0.Defs p1).bind fun y167 => cond (decide (y167.Vars ≤ y4.A)) (F_retraceref20_may_J4 p0 p1 p2 y4 y5 y6 true) (cond (y4.Op == 9) ((F_retraceref20_channel p0 y4.A y4.B).bind fun y170 => F_retraceref20_may_J4 p0 p1 p2 y4 y5 y6 (!y170)) (F_retraceref20_may_J4 p0 p1 p2 y4 y5 y6 false)))) (cond (y4.Op == 9) ((F_retraceref20_channel p0 y4.A y4.B).bind fun y172 => F_retraceref20_may_J4 p0 p1 p2 y4 y5 y6 (!y172)) (F_retraceref20_may_J4 p0 p1 p2 y4 y5 y6 false))
noncomputable def F_retraceref20_may_J2 (p0 : T_api_Code) (p1 : Int) (p2 : Int) (y4 : T_api_Ins) (y5 : T_api_Def) (y6 : Int) (x49 : Bool) : Option (Bool) :=
  cond x49 (some false) (cond (y4.Op == 3) (F_retraceref20_may_J3 p0 p1 p2 y4 y5 y6 true) (cond (y4.Op == 4) (F_retraceref20_may_J3 p0 p1 p2 y4 y5 y6 true) (cond (y4.Op == 11) (F_retraceref20_may_J3 p0 p1 p2 y4 y5 y6 true) (cond (y4.Op == 12) (F_retraceref20_may_J3 p0 p1 p2 y4 y5 y6 true) (F_retraceref20_may_J3 p0 p1 p2 y4 y5 y6 (y4.Op == 19))))))
noncomputable def F_retraceref20_may_J1 (p0 : T_api_Code) (p1 : Int) (p2 : Int) (p3 : Int) (y4 : T_api_Ins) (y5 : T_api_Def) (y6 : Int) (x27 : Bool) : Option (Bool) :=
  cond x27 (some false) (cond (p2 == y5.Entry) (cond (y4.Op != 1) (cond (y4.Op != 24) (F_retraceref20_may_J2 p0 p1 p2 y4 y5 y6 true) (cond (y4.Op == 1) (F_retraceref20_may_J2 p0 p1 p2 y4 y5 y6 (y4.A != p3)) (F_retraceref20_may_J2 p0 p1 p2 y4 y5 y6 false))) (cond (y4.Op == 1) (F_retraceref20_may_J2 p0 p1 p2 y4 y5 y6 (y4.A != p3)) (F_retraceref20_may_J2 p0 p1 p2 y4 y5 y6 false))) (cond (y4.Op == 1) (F_retraceref20_may_J2 p0 p1 p2 y4 y5 y6 (y4.A != p3)) (F_retraceref20_may_J2 p0 p1 p2 y4 y5 y6 false)))
noncomputable def F_retraceref20_may (p0 : T_api_Code) (p1 : Int) (p2 : Int) (p3 : Int) : Option (Bool) :=
  (lAt p0.Ins p2).bind fun y4 => (lAt p0.Defs p1).bind fun y5 => (F_retraceref20_To p0 p1).bind fun y6 => (F_retraceref16_Right y4).bind fun y183 => cond (!y183) (F_retraceref20_may_J1 p0 p1 p2 p3 y4 y5 y6 true) (cond (y4.Op == 24) (cond (p2 != (w64 (y6 - 1))) (F_retraceref20_may_J1 p0 p1 p2 p3 y4 y5 y6 true) (cond (y4.Op != 24) (F_retraceref20_may_J1 p0 p1 p2 p3 y4 y5 y6 (p2 == (w64 (y6 - 1)))) (F_retraceref20_may_J1 p0 p1 p2 p3 y4 y5 y6 false))) (cond (y4.Op != 24) (F_retraceref20_may_J1 p0 p1 p2 p3 y4 y5 y6 (p2 == (w64 (y6 - 1)))) (F_retraceref20_may_J1 p0 p1 p2 p3 y4 y5 y6 false)))
/- retraceref15_Wide -/
noncomputable def F_retraceref15_Wide_J2 (x13 : Bool) : Option (Int) :=
  cond x13 (some 2) (some 0)
noncomputable def F_retraceref15_Wide_J1 (p0 : Int) (x6 : Bool) : Option (Int) :=
  cond x6 (some 1) (cond (decide (5 ≤ p0)) (F_retraceref15_Wide_J2 (decide (p0 ≤ 17))) (F_retraceref15_Wide_J2 false))
noncomputable def F_retraceref15_Wide (p0 : Int) : Option (Int) :=
  cond (p0 == 3) (F_retraceref15_Wide_J1 p0 true) (F_retraceref15_Wide_J1 p0 (p0 == 4))
/- retraceref16_Takes -/
noncomputable def F_retraceref16_Takes_J1  : Option (Int) :=
  some 0
noncomputable def F_retraceref16_Takes_J3 (x55 : Bool) : Option (Int) :=
  cond x55 (some 1) (F_retraceref16_Takes_J1)
noncomputable def F_retraceref16_Takes_J2 (p0 : T_api_Ins) (x44 : Bool) : Option (Int) :=
  cond x44 (some 2) (cond (p0.Op == 4) (F_retraceref16_Takes_J3 (p0.Op == 4)) (cond (p0.Op == 7) (F_retraceref16_Takes_J3 (p0.Op == 7)) (cond (p0.Op == 8) (F_retraceref16_Takes_J3 (p0.Op == 8)) (cond (p0.Op == 11) (F_retraceref16_Takes_J3 (p0.Op == 11)) (cond (p0.Op == 12) (F_retraceref16_Takes_J3 (p0.Op == 12)) (cond (p0.Op == 13) (F_retraceref16_Takes_J3 (p0.Op == 13)) (cond (p0.Op == 15) (F_retraceref16_Takes_J3 (p0.Op == 15)) (cond (p0.Op == 16) (F_retraceref16_Takes_J3 (p0.Op == 16)) (cond (p0.Op == 19) (F_retraceref16_Takes_J3 (p0.Op == 19)) (F_retraceref16_Takes_J3 (p0.Op == 21)))))))))))
noncomputable def F_retraceref16_Takes (p0 : T_api_Ins) : Option (Int) :=
  (F_retraceref16_Right p0).bind fun y5 => cond (!y5) (some 0) (cond (p0.Op == 5) ((F_retraceref15_Wide p0.A).bind fun y39 => some y39) (cond (p0.Op == 14) (some p0.B) (cond (p0.Op == 9) (cond (decide (0 < p0.B)) (some 1) (F_retraceref16_Takes_J1)) (cond (p0.Op == 10) (F_retraceref16_Takes_J2 p0 (p0.Op == 10)) (F_retraceref16_Takes_J2 p0 (p0.Op == 20))))))
/- retraceref20_fits -/
noncomputable def F_retraceref20_fits_J2 (x19 : Bool) : Option (Bool) :=
  some x19
noncomputable def F_retraceref20_fits_J3 (x27 : Bool) : Option (Bool) :=
  some x27
noncomputable def F_retraceref20_fits_J4 (x39 : Bool) : Option (Bool) :=
  some x39
noncomputable def F_retraceref20_fits_J6 (x55 : Bool) : Option (Bool) :=
  some x55
noncomputable def F_retraceref20_fits_J5 (p1 : T_retraceref20_Is) (y2 : Int) (x52 : Bool) : Option (Bool) :=
  cond x52 (cond ((w64 (p1.N - y2)) == 0) (F_retraceref20_fits_J6 (!p1.Choose)) (F_retraceref20_fits_J6 false)) (some true)
noncomputable def F_retraceref20_fits_J1 (p0 : T_api_Ins) (p1 : T_retraceref20_Is) (y2 : Int) (x16 : Bool) : Option (Bool) :=
  cond x16 (cond (p1.N == 0) (F_retraceref20_fits_J2 (!p1.Choose)) (F_retraceref20_fits_J2 false)) (cond (p0.Op == 23) (cond (p1.N == 0) (F_retraceref20_fits_J3 p1.Choose) (F_retraceref20_fits_J3 false)) ((F_retraceref20_Chooses p0.Op).bind fun y36 => cond y36 (cond ((w64 (p1.N - y2)) == 0) (F_retraceref20_fits_J4 p1.Choose) (F_retraceref20_fits_J4 false)) ((F_retraceref20_Acts p0.Op).bind fun y57 => cond y57 (F_retraceref20_fits_J5 p1 y2 true) (F_retraceref20_fits_J5 p1 y2 (p0.Op == 18)))))
noncomputable def F_retraceref20_fits (p0 : T_api_Ins) (p1 : T_retraceref20_Is) : Option (Bool) :=
  (F_retraceref16_Takes p0).bind fun y2 => cond (decide ((w64 (p1.N - y2)) < 0)) (some false) (cond (p0.Op == 1) (F_retraceref20_fits_J1 p0 p1 y2 true) (cond (p0.Op == 24) (F_retraceref20_fits_J1 p0 p1 y2 true) (F_retraceref20_fits_J1 p0 p1 y2 (p0.Op == 25))))
/- retraceref16_Gives -/
noncomputable def F_retraceref16_Gives_J1 (x18 : Bool) : Option (Int) :=
  cond x18 (some 1) (some 0)
noncomputable def F_retraceref16_Gives (p0 : T_api_Ins) : Option (Int) :=
  (F_retraceref16_Right p0).bind fun y20 => cond y20 (cond (p0.Op == 2) (F_retraceref16_Gives_J1 true) (cond (p0.Op == 3) (F_retraceref16_Gives_J1 true) (cond (p0.Op == 5) (F_retraceref16_Gives_J1 true) (F_retraceref16_Gives_J1 (p0.Op == 9))))) (F_retraceref16_Gives_J1 false)
/- retraceref20_meets -/
noncomputable def F_retraceref20_meets (p1 : Int) (p2 : Int) (p3 : T_retraceref20_Is) (o0 : (List T_retraceref20_Is)) : Option (((List T_retraceref20_Is) × Bool) ⊕ ((List T_retraceref20_Is) × Bool)) :=
  cond (decide (p2 ≤ p1)) (some (.inl (o0, ((p3.Come == true) && ((p3.N == 0) && ((p3.Choose == false) && true)))))) ((lAt o0 p2).bind fun y9 => cond y9.Come ((lAt o0 p2).bind fun y12 => some (.inl (o0, ((y12.Come == p3.Come) && ((y12.N == p3.N) && ((y12.Choose == p3.Choose) && true)))))) (grd (((([] : List T_retraceref20_Is)).length + (o0).length) * 24 ≤ 140737488355328) <| (lAt (([] : List T_retraceref20_Is) ++ o0) p2).bind fun y16 => some (.inr ((List.set (([] : List T_retraceref20_Is) ++ o0) (Int.toNat p2) p3), true))))
/- retraceref20_Flow -/
noncomputable def F_retraceref20_Flow_J1 (x228 : Int) (x337 : (List T_retraceref20_Is)) : Option ((Int × (List T_retraceref20_Is)) ⊕ ((List T_retraceref20_Is) × Int)) :=
  some (.inl ((w64 (x228 + 1)), x337))
noncomputable def F_retraceref20_Flow_J5 (x228 : Int) (x405 : Bool) (x406 : (List T_retraceref20_Is)) : Option ((Int × (List T_retraceref20_Is)) ⊕ ((List T_retraceref20_Is) × Int)) :=
  cond (!x405) ((some (x406, x228)).map Sum.inr) (F_retraceref20_Flow_J1 x228 x406)
noncomputable def F_retraceref20_Flow_J6 (x228 : Int) (x372 : Int) (x373 : Bool) (x388 : Bool) (x389 : (List T_retraceref20_Is)) (x413 : Bool) : Option ((Int × (List T_retraceref20_Is)) ⊕ ((List T_retraceref20_Is) × Int)) :=
  cond x413 ((F_retraceref20_meets x228 (w64 (x228 + 1)) (⟨true, x372, x373⟩ : T_retraceref20_Is) x389).bind fun y415 => (Sum.elim (fun y416 => F_retraceref20_Flow_J5 x228 y416.2 y416.1) (fun y417 => F_retraceref20_Flow_J5 x228 y417.2 y417.1)) y415) (F_retraceref20_Flow_J5 x228 x388 x389)
noncomputable def F_retraceref20_Flow_J4 (x228 : Int) (y354 : T_api_Ins) (x372 : Int) (x373 : Bool) (x388 : Bool) (x389 : (List T_retraceref20_Is)) : Option ((Int × (List T_retraceref20_Is)) ⊕ ((List T_retraceref20_Is) × Int)) :=
  cond (!x388) ((some (x389, x228)).map Sum.inr) (cond (y354.Op != 6) (cond (y354.Op != 18) (cond (y354.Op != 23) (F_retraceref20_Flow_J6 x228 x372 x373 x388 x389 (y354.Op != 24)) (F_retraceref20_Flow_J6 x228 x372 x373 x388 x389 false)) (F_retraceref20_Flow_J6 x228 x372 x373 x388 x389 false)) (F_retraceref20_Flow_J6 x228 x372 x373 x388 x389 false))
noncomputable def F_retraceref20_Flow_J7 (x228 : Int) (x229 : (List T_retraceref20_Is)) (y352 : T_retraceref20_Is) (y354 : T_api_Ins) (x372 : Int) (x373 : Bool) (y422 : Int × Bool) (x427 : Int) (x428 : Bool) : Option ((Int × (List T_retraceref20_Is)) ⊕ ((List T_retraceref20_Is) × Int)) :=
  (F_retraceref20_meets x228 y422.1 (⟨true, x427, x428⟩ : T_retraceref20_Is) (List.set x229 (Int.toNat x228) (⟨true, y352.N, y352.Choose⟩ : T_retraceref20_Is))).bind fun y429 => (Sum.elim (fun y430 => F_retraceref20_Flow_J4 x228 y354 x372 x373 y430.2 y430.1) (fun y431 => F_retraceref20_Flow_J4 x228 y354 x372 x373 y431.2 y431.1)) y429
noncomputable def F_retraceref20_Flow_J3 (x228 : Int) (x229 : (List T_retraceref20_Is)) (y352 : T_retraceref20_Is) (y354 : T_api_Ins) (x372 : Int) (x373 : Bool) : Option ((Int × (List T_retraceref20_Is)) ⊕ ((List T_retraceref20_Is) × Int)) :=
  (F_retraceref20_target y354).bind fun y422 => cond y422.2 ((F_retraceref20_Chooses y354.Op).bind fun y433 => cond y433 (F_retraceref20_Flow_J7 x228 x229 y352 y354 x372 x373 y422 0 false) (F_retraceref20_Flow_J7 x228 x229 y352 y354 x372 x373 y422 x372 x373)) (F_retraceref20_Flow_J4 x228 y354 x372 x373 true (List.set x229 (Int.toNat x228) (⟨true, y352.N, y352.Choose⟩ : T_retraceref20_Is)))
noncomputable def F_retraceref20_Flow_J2 (p0 : T_api_Code) (x228 : Int) (x229 : (List T_retraceref20_Is)) (x349 : Bool) : Option ((Int × (List T_retraceref20_Is)) ⊕ ((List T_retraceref20_Is) × Int)) :=
  cond x349 (F_retraceref20_Flow_J1 x228 x229) ((lAt x229 x228).bind fun y352 => (lAt p0.Ins x228).bind fun y354 => (lAt (List.set x229 (Int.toNat x228) (⟨true, y352.N, y352.Choose⟩ : T_retraceref20_Is)) x228).bind fun y362 => (F_retraceref20_fits y354 y362).bind fun y363 => cond (!y363) ((some ((List.set x229 (Int.toNat x228) (⟨true, y352.N, y352.Choose⟩ : T_retraceref20_Is)), x228)).map Sum.inr) ((lAt (List.set x229 (Int.toNat x228) (⟨true, y352.N, y352.Choose⟩ : T_retraceref20_Is)) x228).bind fun y435 => (F_retraceref16_Takes y354).bind fun y436 => (F_retraceref16_Gives y354).bind fun y437 => (lAt (List.set x229 (Int.toNat x228) (⟨true, y352.N, y352.Choose⟩ : T_retraceref20_Is)) x228).bind fun y438 => cond y438.Choose (F_retraceref20_Flow_J3 x228 x229 y352 y354 (w64 ((w64 (y435.N - y436)) + y437)) true) (F_retraceref20_Flow_J3 x228 x229 y352 y354 (w64 ((w64 (y435.N - y436)) + y437)) (y354.Op == 25))))
noncomputable def F_retraceref20_Flow_L8 (p0 : T_api_Code) (p1 : Int) (x228 : Int) (x229 : (List T_retraceref20_Is)) : Option ((Int × (List T_retraceref20_Is)) ⊕ ((List T_retraceref20_Is) × Int)) :=
  (F_retraceref20_To p0 p1).bind fun y236 => cond (decide (x228 < y236)) ((lAt x229 x228).bind fun y440 => cond (!y440.Come) ((lAt p0.Ins x228).bind fun y442 => F_retraceref20_Flow_J2 p0 x228 x229 (y442.Op != 1)) (F_retraceref20_Flow_J2 p0 x228 x229 false)) ((some (x229, (-1))).map Sum.inr)
noncomputable def F_retraceref20_Flow (p0 : T_api_Code) (p1 : Int) : Option ((List T_retraceref20_Is) × Int) :=
  grd ((0 : Int) ≤ (w64 (((p0.Ins).length : Int) + 1)) ∧ (w64 (((p0.Ins).length : Int) + 1)) ≤ (w64 (((p0.Ins).length : Int) + 1)) ∧ (w64 (((p0.Ins).length : Int) + 1)) ≤ 281474976710656 ∧ (24 : Int) * (w64 (((p0.Ins).length : Int) + 1)) ≤ 281474976710656) <| (lAt p0.Defs p1).bind fun y5 => (lAt (List.replicate (Int.toNat (w64 (((p0.Ins).length : Int) + 1))) (⟨false, 0, false⟩ : T_retraceref20_Is)) y5.Entry).bind fun y6 => (lAt p0.Defs p1).bind fun y227 => Loop (fun s : (Int × (List T_retraceref20_Is)) => F_retraceref20_Flow_L8 p0 p1 s.1 s.2) (y227.Entry, (List.set (List.replicate (Int.toNat (w64 (((p0.Ins).length : Int) + 1))) (⟨false, 0, false⟩ : T_retraceref20_Is)) (Int.toNat y5.Entry) (⟨true, y6.N, y6.Choose⟩ : T_retraceref20_Is)))
/- retraceref20_Check -/
noncomputable def F_retraceref20_Check_J1 (x160 : Int) (x182 : Int) : Option ((Int × Int) ⊕ ((Int × Int) ⊕ ((List Int)))) :=
  some (.inl (x182, (w64 (x160 + 1))))
noncomputable def F_retraceref20_Check_L2 (p0 : T_api_Code) (x109 : Int) (x159 : Int) (x160 : Int) : Option ((Int × Int) ⊕ ((Int × Int) ⊕ ((List Int)))) :=
  (F_retraceref20_To p0 x109).bind fun y167 => cond (decide (x160 < y167)) ((F_retraceref20_may p0 x109 x160 x159).bind fun y189 => cond (!y189) (grd ((([x160, 15] : List Int)).length = 2 ∧ ((List.replicate 2 (0 : Int))).length = 2) <| ((grd ((([x160, 15] : List Int)).length = 2) <| some ([x160, 15] : List Int)).map Sum.inr).map Sum.inr) ((lAt p0.Ins x160).bind fun y199 => cond (y199.Op == 1) (F_retraceref20_Check_J1 x160 (w64 (x159 + 1))) (F_retraceref20_Check_J1 x160 x159))) ((some (.inl (x159, (w64 (x109 + 1))))).map Sum.inr)
noncomputable def F_retraceref20_Check_L3 (p0 : T_api_Code) (x231 : Int) : Option ((Int) ⊕ ((List Int))) :=
  cond (decide (x231 < ((p0.Defs).length : Int))) ((F_retraceref20_Flow p0 x231).bind fun y242 => cond (decide (0 ≤ y242.2)) (grd ((([y242.2, 14] : List Int)).length = 2 ∧ ((List.replicate 2 (0 : Int))).length = 2) <| (grd ((([y242.2, 14] : List Int)).length = 2) <| some ([y242.2, 14] : List Int)).map Sum.inr) (some (.inl (w64 (x231 + 1))))) ((grd ((([0, 0] : List Int)).length = 2 ∧ ((List.replicate 2 (0 : Int))).length = 2) <| grd ((([0, 0] : List Int)).length = 2) <| some ([0, 0] : List Int)).map Sum.inr)
noncomputable def F_retraceref20_Check_L4 (p0 : T_api_Code) (x108 : Int) (x109 : Int) : Option ((Int × Int) ⊕ ((List Int))) :=
  cond (decide (x109 < ((p0.Defs).length : Int))) ((lAt p0.Defs x109).bind fun y158 => Loop (fun s : (Int × Int) => F_retraceref20_Check_L2 p0 x109 s.1 s.2) (x108, y158.Entry)) ((cond (x108 != p0.Stmts) (grd ((([0, 3] : List Int)).length = 2 ∧ ((List.replicate 2 (0 : Int))).length = 2) <| grd ((([0, 3] : List Int)).length = 2) <| some ([0, 3] : List Int)) (Loop (fun s : (Int) => F_retraceref20_Check_L3 p0 s) 0)).map Sum.inr)
noncomputable def F_retraceref20_Check (p0 : T_api_Code) : Option ((List Int)) :=
  (F_retraceref20_tables p0).bind fun y7 => cond (!y7) (grd ((([0, 3] : List Int)).length = 2 ∧ ((List.replicate 2 (0 : Int))).length = 2) <| grd ((([0, 3] : List Int)).length = 2) <| some ([0, 3] : List Int)) (Loop (fun s : (Int × Int) => F_retraceref20_Check_L4 p0 s.1 s.2) (0, 0))
/- retraceref21_Get -/
noncomputable def F_retraceref21_Get_J3 (x52 : (List T_api_Def)) (x114 : Int) (x115 : ByteArray) (x116 : Int) (x117 : (List T_api_Chan)) (x125 : Bool) : Option ((Int × ByteArray × Int × (List T_api_Chan)) ⊕ (T_retraceref21_Got)) :=
  cond x125 ((F_retraceref03_Reader_Text 16 (⟨x115, x116⟩ : T_retraceref03_Reader)).bind fun y135 => (F_retraceref03_Reader_Upto 65536 y135.2).bind fun y137 => (F_retraceref03_Reader_Upto 65536 y137.2).bind fun y139 => grd (((x117).length + ([(⟨y135.1, y137.1, y139.1⟩ : T_api_Chan)]).length) * 32 ≤ 140737488355328) <| some (.inl ((w64 (x114 + 1)), y139.2.S, y139.2.Bad, (x117 ++ [(⟨y135.1, y137.1, y139.1⟩ : T_api_Chan)])))) (((F_retraceref03_Reader_Upto 65536 (⟨x115, x116⟩ : T_retraceref03_Reader)).bind fun y144 => (F_retraceref03_Reader_Upto 65536 y144.2).bind fun y146 => (F_retraceref03_Reader_Text 2097152 y146.2).bind fun y148 => (F_retraceref03_Reader_End y148.2).bind fun y153 => cond (y153 != 0) (some (⟨(⟨([] : List T_api_Ins), ([] : List T_api_Def), ([] : List T_api_Chan), 0, 0⟩ : T_api_Code), y153⟩ : T_retraceref21_Got)) ((F_retraceref16_Get y148.1).bind fun y156 => cond (y156.E != 0) (some (⟨(⟨([] : List T_api_Ins), ([] : List T_api_Def), ([] : List T_api_Chan), 0, 0⟩ : T_api_Code), y156.E⟩ : T_retraceref21_Got)) ((F_retraceref20_Check (⟨y156.L, x52, x117, y144.1, y146.1⟩ : T_api_Code)).bind fun y170 => grd ((y170).length = 2 ∧ ((List.replicate 2 (0 : Int))).length = 2) <| (aAt 2 y170 1).bind fun y173 => cond (y173 != 0) ((aAt 2 y170 1).bind fun y176 => some (⟨(⟨([] : List T_api_Ins), ([] : List T_api_Def), ([] : List T_api_Chan), 0, 0⟩ : T_api_Code), y176⟩ : T_retraceref21_Got)) (some (⟨(⟨y156.L, x52, x117, y144.1, y146.1⟩ : T_api_Code), 0⟩ : T_retraceref21_Got))))).map Sum.inr)
noncomputable def F_retraceref21_Get_L4 (x52 : (List T_api_Def)) (y83 : Int × T_retraceref03_Reader) (x114 : Int) (x115 : ByteArray) (x116 : Int) (x117 : (List T_api_Chan)) : Option ((Int × ByteArray × Int × (List T_api_Chan)) ⊕ (T_retraceref21_Got)) :=
  cond (decide (x114 < y83.1)) (F_retraceref21_Get_J3 x52 x114 x115 x116 x117 (x116 == 0)) (F_retraceref21_Get_J3 x52 x114 x115 x116 x117 false)
noncomputable def F_retraceref21_Get_J2 (x49 : Int) (x50 : ByteArray) (x51 : Int) (x52 : (List T_api_Def)) (x60 : Bool) : Option ((Int × ByteArray × Int × (List T_api_Def)) ⊕ (T_retraceref21_Got)) :=
  cond x60 ((F_retraceref03_Reader_Text 16 (⟨x50, x51⟩ : T_retraceref03_Reader)).bind fun y72 => (F_retraceref03_Reader_Upto 65536 y72.2).bind fun y74 => (F_retraceref03_Reader_Upto 65536 y74.2).bind fun y76 => (F_retraceref03_Reader_Upto 65536 y76.2).bind fun y78 => grd (((x52).length + ([(⟨y72.1, y74.1, y76.1, y78.1⟩ : T_api_Def)]).length) * 40 ≤ 140737488355328) <| some (.inl ((w64 (x49 + 1)), y78.2.S, y78.2.Bad, (x52 ++ [(⟨y72.1, y74.1, y76.1, y78.1⟩ : T_api_Def)])))) (((F_retraceref03_Reader_Upto 64 (⟨x50, x51⟩ : T_retraceref03_Reader)).bind fun y83 => Loop (fun s : (Int × ByteArray × Int × (List T_api_Chan)) => F_retraceref21_Get_L4 x52 y83 s.1 s.2.1 s.2.2.1 s.2.2.2) (0, y83.2.S, y83.2.Bad, ([] : (List T_api_Chan)))).map Sum.inr)
noncomputable def F_retraceref21_Get_L5 (y14 : Int × T_retraceref03_Reader) (x49 : Int) (x50 : ByteArray) (x51 : Int) (x52 : (List T_api_Def)) : Option ((Int × ByteArray × Int × (List T_api_Def)) ⊕ (T_retraceref21_Got)) :=
  cond (decide (x49 < y14.1)) (F_retraceref21_Get_J2 x49 x50 x51 x52 (x51 == 0)) (F_retraceref21_Get_J2 x49 x50 x51 x52 false)
noncomputable def F_retraceref21_Get_J1 (p0 : ByteArray) (x9 : Bool) : Option (T_retraceref21_Got) :=
  cond x9 (some (⟨(⟨([] : List T_api_Ins), ([] : List T_api_Def), ([] : List T_api_Chan), 0, 0⟩ : T_api_Code), 3⟩ : T_retraceref21_Got)) (grd ((0 : Int) ≤ 4 ∧ (4 : Int) ≤ (p0.size : Int) ∧ (p0.size : Int) ≤ (p0.size : Int)) <| (F_retraceref03_Reader_Upto 32 (⟨(p0.extract (Int.toNat 4) (Int.toNat (p0.size : Int))), 0⟩ : T_retraceref03_Reader)).bind fun y14 => Loop (fun s : (Int × ByteArray × Int × (List T_api_Def)) => F_retraceref21_Get_L5 y14 s.1 s.2.1 s.2.2.1 s.2.2.2) (0, y14.2.S, y14.2.Bad, ([] : (List T_api_Def))))
noncomputable def F_retraceref21_Get (p0 : ByteArray) : Option (T_retraceref21_Got) :=
  cond (decide ((p0.size : Int) < 4)) (F_retraceref21_Get_J1 p0 true) (grd ((0 : Int) ≤ 0 ∧ (0 : Int) ≤ 4 ∧ 4 ≤ (p0.size : Int)) <| F_retraceref21_Get_J1 p0 (!((p0.extract (Int.toNat 0) (Int.toNat 4)).toList == (⟨#[82, 84, 67, 49]⟩ : ByteArray).toList)))
/- retracelaw21_ImageGets -/
noncomputable def F_retracelaw21_ImageGets_J1 (x51 : Bool) : Option (Bool) :=
  some x51
noncomputable def F_retracelaw21_ImageGets_J2 (x62 : Bool) : Option (Bool) :=
  some x62
noncomputable def F_retracelaw21_ImageGets_J4 (x102 : Bool) : Option (Bool) :=
  some x102
noncomputable def F_retracelaw21_ImageGets_J3 (p0 : ByteArray) (y75 : ByteArray) (y78 : T_api_Code × Int) (x89 : Bool) : Option (Bool) :=
  cond x89 (some false) (cond (y78.2 != 0) ((F_retracelaw21_live).bind fun y96 => some y96) ((F_image_Put y78.1).bind fun y98 => cond (y98.1.toList == (p0 ++ y75).toList) (cond (y98.2 == 0) ((F_retracelaw21_live).bind fun y105 => F_retracelaw21_ImageGets_J4 y105) (F_retracelaw21_ImageGets_J4 false)) (F_retracelaw21_ImageGets_J4 false)))
noncomputable def F_retracelaw21_ImageGets (p0 : ByteArray) (p1 : Bool) : Option (Bool) :=
  cond (decide (1500 < (p0.size : Int))) ((F_retracelaw21_live).bind fun y6 => some y6) (cond (!p1) ((F_image_Get p0).bind fun y41 => cond (decide ((p0.size : Int) < 4)) (cond (y41.2 == 2) ((F_retracelaw21_live).bind fun y53 => F_retracelaw21_ImageGets_J1 y53) (F_retracelaw21_ImageGets_J1 false)) (grd ((0 : Int) ≤ 0 ∧ (0 : Int) ≤ (w64 ((p0.size : Int) - 4)) ∧ (w64 ((p0.size : Int) - 4)) ≤ (p0.size : Int)) <| (F_retraceref02_Sum (p0.extract (Int.toNat 0) (Int.toNat (w64 ((p0.size : Int) - 4))))).bind fun y64 => (F_retraceref02_Bytes y64).bind fun y65 => grd ((0 : Int) ≤ (w64 ((p0.size : Int) - 4)) ∧ ((w64 ((p0.size : Int) - 4)) : Int) ≤ (p0.size : Int) ∧ (p0.size : Int) ≤ (p0.size : Int)) <| cond (y65.toList == (p0.extract (Int.toNat (w64 ((p0.size : Int) - 4))) (Int.toNat (p0.size : Int))).toList) ((F_retracelaw21_live).bind fun y68 => F_retracelaw21_ImageGets_J2 y68) (cond (y41.2 == 4) ((F_retracelaw21_live).bind fun y70 => F_retracelaw21_ImageGets_J2 y70) (F_retracelaw21_ImageGets_J2 false)))) ((F_retraceref02_Sum p0).bind fun y74 => (F_retraceref02_Bytes y74).bind fun y75 => grd (p0.size + y75.size ≤ 9223372036854775807) <| (F_image_Get (p0 ++ y75)).bind fun y78 => (F_retraceref21_Get p0).bind fun y80 => cond (y78.2 != y80.E) (F_retracelaw21_ImageGets_J3 p0 y75 y78 true) ((F_retraceref19_Same y78.1 y80.C).bind fun y107 => F_retracelaw21_ImageGets_J3 p0 y75 y78 (!y107))))
/- retracelaw21_large -/
/- retraceref20_Right -/
/- retraceref02_Turned -/
/- retracelaw21_ImageBack -/
/- image_Sum -/
noncomputable def F_image_Sum (p0 : T_api_Code) : Option (Int × Int) :=
  (F_image_bytes p0).bind fun y2 => cond (y2.2 != 0) (some (0, y2.2)) ((F_crc_Sum y2.1).bind fun y6 => some (y6, 0))
/- retraceref01_Num -/
/- retraceref21_num -/
/- retraceref03_Text -/
/- retraceref01_Zig -/
/- retraceref03_Int -/
/- retraceref16_Bytes -/
/- retraceref16_Put -/
/- retraceref21_Bytes -/
/- retraceref21_Image -/
/- retracelaw21_ImagePuts -/
end Go.Ab
