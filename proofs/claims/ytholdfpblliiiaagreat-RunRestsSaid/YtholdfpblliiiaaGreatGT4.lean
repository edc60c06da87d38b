import Derived.Test.YtholdfpblliiiaaGreatAbCut
import Derived.Test.YtholdfpblliiiaaGreatRan24
import Derived.Test.YtholdfpblliiiaaGreatProg
namespace Go.Ab
open Go.Proofs
set_option linter.unusedVariables false
set_option maxRecDepth 100000
structure T_api_Ins where
  Op : Int
  A : Int
  B : Int
abbrev T_api_Ins.enc (x : T_api_Ins) : List D := [.int .i64 x.Op, .int .i64 x.A, .int .i64 x.B]
theorem T_api_Ins.enc_len (x : T_api_Ins) : (T_api_Ins.enc x).length = 3 := rfl
abbrev T_api_Ins.pvs (x : T_api_Ins) : List PV := [i64 x.Op, i64 x.A, i64 x.B]
structure T_api_Def where
  Name : ByteArray
  Entry : Int
  Params : Int
  Vars : Int
abbrev T_api_Def.enc (x : T_api_Def) : List D := [.str x.Name, .int .i64 x.Entry, .int .i64 x.Params, .int .i64 x.Vars]
theorem T_api_Def.enc_len (x : T_api_Def) : (T_api_Def.enc x).length = 4 := rfl
abbrev T_api_Def.pvs (x : T_api_Def) : List PV := [sv x.Name, i64 x.Entry, i64 x.Params, i64 x.Vars]
structure T_api_Chan where
  Name : ByteArray
  Base : Int
  Size : Int
abbrev T_api_Chan.enc (x : T_api_Chan) : List D := [.str x.Name, .int .i64 x.Base, .int .i64 x.Size]
theorem T_api_Chan.enc_len (x : T_api_Chan) : (T_api_Chan.enc x).length = 3 := rfl
abbrev T_api_Chan.pvs (x : T_api_Chan) : List PV := [sv x.Name, i64 x.Base, i64 x.Size]
structure T_api_Code where
  Ins : (List T_api_Ins)
  Defs : (List T_api_Def)
  Chans : (List T_api_Chan)
  Main : Int
  Stmts : Int
abbrev T_api_Code.enc (x : T_api_Code) : List D := [.list false (x.Ins).length (encL T_api_Ins.enc x.Ins), .list false (x.Defs).length (encL T_api_Def.enc x.Defs), .list false (x.Chans).length (encL T_api_Chan.enc x.Chans), .int .i64 x.Main, .int .i64 x.Stmts]
theorem T_api_Code.enc_len (x : T_api_Code) : (T_api_Code.enc x).length = 5 := rfl
abbrev T_api_Code.pvs (x : T_api_Code) : List PV := [lv T_api_Ins.enc x.Ins, lv T_api_Def.enc x.Defs, lv T_api_Chan.enc x.Chans, i64 x.Main, i64 x.Stmts]
structure T_api_Alt where
  Kind : Int
  Chan : Int
  Val : Int
  Slot : Int
  Goto : Int
abbrev T_api_Alt.enc (x : T_api_Alt) : List D := [.int .i64 x.Kind, .int .i64 x.Chan, .int .i64 x.Val, .int .i64 x.Slot, .int .i64 x.Goto]
theorem T_api_Alt.enc_len (x : T_api_Alt) : (T_api_Alt.enc x).length = 5 := rfl
abbrev T_api_Alt.pvs (x : T_api_Alt) : List PV := [i64 x.Kind, i64 x.Chan, i64 x.Val, i64 x.Slot, i64 x.Goto]
structure T_api_Proc where
  Def : Int
  At : Int
  Vars : (List Int)
  Fuel : Int
  Mode : Int
  Chan : Int
  Val : Int
  Slot : Int
  Until : Int
  Since : Int
  Alts : (List T_api_Alt)
abbrev T_api_Proc.enc (x : T_api_Proc) : List D := [.int .i64 x.Def, .int .i64 x.At, .list false (x.Vars).length (encL (eInt .i64) x.Vars), .int .i64 x.Fuel, .int .i64 x.Mode, .int .i64 x.Chan, .int .i64 x.Val, .int .i64 x.Slot, .int .i64 x.Until, .int .i64 x.Since, .list false (x.Alts).length (encL T_api_Alt.enc x.Alts)]
theorem T_api_Proc.enc_len (x : T_api_Proc) : (T_api_Proc.enc x).length = 11 := rfl
abbrev T_api_Proc.pvs (x : T_api_Proc) : List PV := [i64 x.Def, i64 x.At, lv (eInt .i64) x.Vars, i64 x.Fuel, i64 x.Mode, i64 x.Chan, i64 x.Val, i64 x.Slot, i64 x.Until, i64 x.Since, lv T_api_Alt.enc x.Alts]
structure T_retraceref20_Is where
  Come : Bool
  N : Int
  Choose : Bool
abbrev T_retraceref20_Is.enc (x : T_retraceref20_Is) : List D := [.bool x.Come, .int .i64 x.N, .bool x.Choose]
theorem T_retraceref20_Is.enc_len (x : T_retraceref20_Is) : (T_retraceref20_Is.enc x).length = 3 := rfl
abbrev T_retraceref20_Is.pvs (x : T_retraceref20_Is) : List PV := [bo x.Come, i64 x.N, bo x.Choose]
structure T_retraceref19_Got where
  C : T_api_Code
  At : Int
  E : Int
abbrev T_retraceref19_Got.enc (x : T_retraceref19_Got) : List D := [.list false (x.C.Ins).length (encL T_api_Ins.enc x.C.Ins), .list false (x.C.Defs).length (encL T_api_Def.enc x.C.Defs), .list false (x.C.Chans).length (encL T_api_Chan.enc x.C.Chans), .int .i64 x.C.Main, .int .i64 x.C.Stmts, .int .i64 x.At, .int .i64 x.E]
theorem T_retraceref19_Got.enc_len (x : T_retraceref19_Got) : (T_retraceref19_Got.enc x).length = 7 := rfl
abbrev T_retraceref19_Got.pvs (x : T_retraceref19_Got) : List PV := [lv T_api_Ins.enc x.C.Ins, lv T_api_Def.enc x.C.Defs, lv T_api_Chan.enc x.C.Chans, i64 x.C.Main, i64 x.C.Stmts, i64 x.At, i64 x.E]
structure T_api_Effect where
  Kind : Int
  Stmt : Int
  At : Int
  Chan : Int
  Val : Int
  Slot : Int
  Def : Int
  Args : (List Int)
  Alts : (List T_api_Alt)
  Fault : Int
abbrev T_api_Effect.enc (x : T_api_Effect) : List D := [.int .i64 x.Kind, .int .i64 x.Stmt, .int .i64 x.At, .int .i64 x.Chan, .int .i64 x.Val, .int .i64 x.Slot, .int .i64 x.Def, .list false (x.Args).length (encL (eInt .i64) x.Args), .list false (x.Alts).length (encL T_api_Alt.enc x.Alts), .int .i64 x.Fault]
theorem T_api_Effect.enc_len (x : T_api_Effect) : (T_api_Effect.enc x).length = 10 := rfl
abbrev T_api_Effect.pvs (x : T_api_Effect) : List PV := [i64 x.Kind, i64 x.Stmt, i64 x.At, i64 x.Chan, i64 x.Val, i64 x.Slot, i64 x.Def, lv (eInt .i64) x.Args, lv T_api_Alt.enc x.Alts, i64 x.Fault]
structure T_stack_Stack_int_ where
  l : (List Int)
  most : Int
abbrev T_stack_Stack_int_.enc (x : T_stack_Stack_int_) : List D := [.list false (x.l).length (encL (eInt .i64) x.l), .int .i64 x.most]
theorem T_stack_Stack_int_.enc_len (x : T_stack_Stack_int_) : (T_stack_Stack_int_.enc x).length = 2 := rfl
abbrev T_stack_Stack_int_.pvs (x : T_stack_Stack_int_) : List PV := [lv (eInt .i64) x.l, i64 x.most]

/- retracelaw24_large -/
noncomputable def F_retracelaw24_large_J1 (x5 : Bool) : Option (Bool) :=
  some x5
noncomputable def F_retracelaw24_large (p0 : T_api_Code) (p1 : T_api_Proc) : Option (Bool) :=
  cond (decide (150 < ((p0.Ins).length : Int))) (F_retracelaw24_large_J1 true) (cond (decide (40 < ((p0.Defs).length : Int))) (F_retracelaw24_large_J1 true) (cond (decide (80 < ((p0.Chans).length : Int))) (F_retracelaw24_large_J1 true) (cond (decide (40 < ((p1.Vars).length : Int))) (F_retracelaw24_large_J1 true) (F_retracelaw24_large_J1 (decide (40 < ((p1.Alts).length : Int)))))))
/- retraceref08_Letter -/
noncomputable def F_retraceref08_Letter_J1 (x7 : Bool) : Option (Bool) :=
  some x7
noncomputable def F_retraceref08_Letter (p0 : Int) : Option (Bool) :=
  cond (decide (97 ≤ p0)) (cond (decide (p0 ≤ 122)) (F_retraceref08_Letter_J1 true) (cond (decide (65 ≤ p0)) (cond (decide (p0 ≤ 90)) (F_retraceref08_Letter_J1 true) (F_retraceref08_Letter_J1 (p0 == 95))) (F_retraceref08_Letter_J1 (p0 == 95)))) (cond (decide (65 ≤ p0)) (cond (decide (p0 ≤ 90)) (F_retraceref08_Letter_J1 true) (F_retraceref08_Letter_J1 (p0 == 95))) (F_retraceref08_Letter_J1 (p0 == 95)))
/- retraceref08_Digit -/
noncomputable def F_retraceref08_Digit_J1 (x2 : Bool) : Option (Bool) :=
  some x2
noncomputable def F_retraceref08_Digit (p0 : Int) : Option (Bool) :=
  cond (decide (48 ≤ p0)) (F_retraceref08_Digit_J1 (decide (p0 ≤ 57))) (F_retraceref08_Digit_J1 false)
/- retraceref08_Words -/
noncomputable def F_retraceref08_Words  : Option ((List ByteArray)) :=
  some ([(⟨#[99, 104, 97, 110]⟩ : ByteArray), (⟨#[112, 114, 111, 99]⟩ : ByteArray), (⟨#[109, 97, 105, 110]⟩ : ByteArray), (⟨#[118, 97, 114]⟩ : ByteArray), (⟨#[105, 102]⟩ : ByteArray), (⟨#[101, 108, 115, 101]⟩ : ByteArray), (⟨#[119, 104, 105, 108, 101]⟩ : ByteArray), (⟨#[115, 101, 108, 101, 99, 116]⟩ : ByteArray), (⟨#[99, 97, 115, 101]⟩ : ByteArray), (⟨#[119, 104, 101, 110]⟩ : ByteArray), (⟨#[97, 102, 116, 101, 114]⟩ : ByteArray), (⟨#[115, 116, 97, 114, 116]⟩ : ByteArray), (⟨#[115, 108, 101, 101, 112]⟩ : ByteArray), (⟨#[114, 97, 110, 100, 111, 109]⟩ : ByteArray), (⟨#[112, 114, 105, 110, 116]⟩ : ByteArray), (⟨#[97, 115, 115, 101, 114, 116]⟩ : ByteArray), (⟨#[115, 107, 105, 112]⟩ : ByteArray), (⟨#[115, 116, 111, 112]⟩ : ByteArray)])
/- retraceref08_In -/
noncomputable def F_retraceref08_In_L1 (p1 : ByteArray) (o0 : (List ByteArray)) (x16 : Int) : Option ((Int) ⊕ (Bool)) :=
  cond (decide (x16 < ((o0).length : Int))) ((lAt o0 x16).bind fun y25 => cond (y25.toList == p1.toList) ((some true).map Sum.inr) (some (.inl (w64 (x16 + 1))))) ((some false).map Sum.inr)
noncomputable def F_retraceref08_In (p1 : ByteArray) (o0 : (List ByteArray)) : Option (Bool) :=
  Loop (fun s : (Int) => F_retraceref08_In_L1 p1 o0 s) 0
/- retraceref08_Name -/
noncomputable def F_retraceref08_Name_J1 (x38 : Int) (x63 : Bool) : Option ((Int) ⊕ (Bool)) :=
  cond x63 ((some false).map Sum.inr) (some (.inl (w64 (x38 + 1))))
noncomputable def F_retraceref08_Name_J2 (x79 : Bool) : Option (Bool) :=
  some x79
noncomputable def F_retraceref08_Name_L3 (p0 : ByteArray) (x38 : Int) : Option ((Int) ⊕ (Bool)) :=
  cond (decide (x38 < (p0.size : Int))) ((sAt p0 x38).bind fun y67 => (F_retraceref08_Letter y67).bind fun y68 => cond (!y68) (cond (x38 == 0) (F_retraceref08_Name_J1 x38 true) ((sAt p0 x38).bind fun y71 => (F_retraceref08_Digit y71).bind fun y72 => F_retraceref08_Name_J1 x38 (!y72))) (F_retraceref08_Name_J1 x38 false)) ((cond (decide (1 ≤ (p0.size : Int))) (cond (decide ((p0.size : Int) ≤ 16)) ((F_retraceref08_Words).bind fun y82 => (F_retraceref08_In p0 y82).bind fun y83 => F_retraceref08_Name_J2 (!y83)) (F_retraceref08_Name_J2 false)) (F_retraceref08_Name_J2 false)).map Sum.inr)
noncomputable def F_retraceref08_Name (p0 : ByteArray) : Option (Bool) :=
  Loop (fun s : (Int) => F_retraceref08_Name_L3 p0 s) 0
/- retraceref20_tables -/
noncomputable def F_retraceref20_tables_J3 (x210 : Int) (x370 : Bool) : Option ((Int) ⊕ (Bool)) :=
  cond x370 ((some false).map Sum.inr) (some (.inl (w64 (x210 + 1))))
noncomputable def F_retraceref20_tables_J2 (x210 : Int) (y304 : T_api_Def) (x364 : Bool) : Option ((Int) ⊕ (Bool)) :=
  cond x364 ((some false).map Sum.inr) (cond (decide (y304.Params < 0)) (F_retraceref20_tables_J3 x210 true) (cond (decide (y304.Vars < y304.Params)) (F_retraceref20_tables_J3 x210 true) (F_retraceref20_tables_J3 x210 (decide (16 < y304.Vars)))))
noncomputable def F_retraceref20_tables_J4 (x463 : Int) (x495 : Int) : Option ((Int × Int) ⊕ (Bool)) :=
  some (.inl (x495, (w64 (x463 + 1))))
noncomputable def F_retraceref20_tables_J5 (x462 : Int) (x463 : Int) (y497 : T_api_Chan) (x515 : Bool) : Option ((Int × Int) ⊕ (Bool)) :=
  cond x515 ((some false).map Sum.inr) (cond (y497.Size == 0) (F_retraceref20_tables_J4 x463 (w64 ((w64 (x462 + y497.Size)) + 1))) (F_retraceref20_tables_J4 x463 (w64 (x462 + y497.Size))))
noncomputable def F_retraceref20_tables_L6 (p0 : T_api_Code) (x462 : Int) (x463 : Int) : Option ((Int × Int) ⊕ (Bool)) :=
  cond (decide (x463 < ((p0.Chans).length : Int))) ((lAt p0.Chans x463).bind fun y497 => (F_retraceref08_Name y497.Name).bind fun y520 => cond (!y520) (F_retraceref20_tables_J5 x462 x463 y497 true) (cond (decide (y497.Size < 0)) (F_retraceref20_tables_J5 x462 x463 y497 true) (cond (decide (16 < y497.Size)) (F_retraceref20_tables_J5 x462 x463 y497 true) (cond (y497.Base != x462) (F_retraceref20_tables_J5 x462 x463 y497 true) (F_retraceref20_tables_J5 x462 x463 y497 (decide (64 ≤ x462))))))) ((some (decide (x462 ≤ 64))).map Sum.inr)
noncomputable def F_retraceref20_tables_L7 (p0 : T_api_Code) (x210 : Int) : Option ((Int) ⊕ (Bool)) :=
  cond (decide (x210 < ((p0.Defs).length : Int))) ((lAt p0.Defs x210).bind fun y304 => cond (!(y304.Name.toList == (⟨#[109, 97, 105, 110]⟩ : ByteArray).toList)) ((F_retraceref08_Name y304.Name).bind fun y377 => cond (!y377) (F_retraceref20_tables_J2 x210 y304 true) (cond (decide (y304.Entry < 0)) (F_retraceref20_tables_J2 x210 y304 true) (cond (decide (((p0.Ins).length : Int) ≤ y304.Entry)) (F_retraceref20_tables_J2 x210 y304 true) (cond (x210 == 0) (cond (y304.Entry != 0) (F_retraceref20_tables_J2 x210 y304 true) (cond (decide (0 < x210)) ((lAt p0.Defs (w64 (x210 - 1))).bind fun y384 => F_retraceref20_tables_J2 x210 y304 (decide (y304.Entry ≤ y384.Entry))) (F_retraceref20_tables_J2 x210 y304 false))) (cond (decide (0 < x210)) ((lAt p0.Defs (w64 (x210 - 1))).bind fun y386 => F_retraceref20_tables_J2 x210 y304 (decide (y304.Entry ≤ y386.Entry))) (F_retraceref20_tables_J2 x210 y304 false)))))) (cond (decide (y304.Entry < 0)) (F_retraceref20_tables_J2 x210 y304 true) (cond (decide (((p0.Ins).length : Int) ≤ y304.Entry)) (F_retraceref20_tables_J2 x210 y304 true) (cond (x210 == 0) (cond (y304.Entry != 0) (F_retraceref20_tables_J2 x210 y304 true) (cond (decide (0 < x210)) ((lAt p0.Defs (w64 (x210 - 1))).bind fun y392 => F_retraceref20_tables_J2 x210 y304 (decide (y304.Entry ≤ y392.Entry))) (F_retraceref20_tables_J2 x210 y304 false))) (cond (decide (0 < x210)) ((lAt p0.Defs (w64 (x210 - 1))).bind fun y394 => F_retraceref20_tables_J2 x210 y304 (decide (y304.Entry ≤ y394.Entry))) (F_retraceref20_tables_J2 x210 y304 false)))))) ((Loop (fun s : (Int × Int) => F_retraceref20_tables_L6 p0 s.1 s.2) (0, 0)).map Sum.inr)
noncomputable def F_retraceref20_tables_J1 (p0 : T_api_Code) (x21 : Bool) : Option (Bool) :=
  cond x21 (some false) (Loop (fun s : (Int) => F_retraceref20_tables_L7 p0 s) 0)
noncomputable def F_retraceref20_tables (p0 : T_api_Code) : Option (Bool) :=
  cond (decide (((p0.Defs).length : Int) < 1)) (F_retraceref20_tables_J1 p0 true) (cond (decide (32 < ((p0.Defs).length : Int))) (F_retraceref20_tables_J1 p0 true) (cond (decide (65536 < ((p0.Ins).length : Int))) (F_retraceref20_tables_J1 p0 true) (cond (decide (p0.Main < 0)) (F_retraceref20_tables_J1 p0 true) (cond (decide (((p0.Defs).length : Int) ≤ p0.Main)) (F_retraceref20_tables_J1 p0 true) ((lAt p0.Defs p0.Main).bind fun y532 => F_retraceref20_tables_J1 p0 (y532.Params != 0))))))
/- retraceref20_To -/
noncomputable def F_retraceref20_To (p0 : T_api_Code) (p1 : Int) : Option (Int) :=
  cond (decide ((w64 (p1 + 1)) < ((p0.Defs).length : Int))) ((lAt p0.Defs (w64 (p1 + 1))).bind fun y6 => some y6.Entry) (some ((p0.Ins).length : Int))
/- retraceref16_Nums -/
noncomputable def F_retraceref16_Nums_J2 (x49 : Bool) : Option (Int) :=
  cond x49 (some 1) (some 0)
noncomputable def F_retraceref16_Nums_J1 (p0 : Int) (x35 : Bool) : Option (Int) :=
  cond x35 (some 2) (cond (p0 == 1) (F_retraceref16_Nums_J2 (p0 == 1)) (cond (p0 == 2) (F_retraceref16_Nums_J2 (p0 == 2)) (cond (p0 == 3) (F_retraceref16_Nums_J2 (p0 == 3)) (cond (p0 == 4) (F_retraceref16_Nums_J2 (p0 == 4)) (cond (p0 == 5) (F_retraceref16_Nums_J2 (p0 == 5)) (cond (p0 == 6) (F_retraceref16_Nums_J2 (p0 == 6)) (cond (p0 == 7) (F_retraceref16_Nums_J2 (p0 == 7)) (cond (p0 == 8) (F_retraceref16_Nums_J2 (p0 == 8)) (cond (p0 == 11) (F_retraceref16_Nums_J2 (p0 == 11)) (cond (p0 == 12) (F_retraceref16_Nums_J2 (p0 == 12)) (cond (p0 == 20) (F_retraceref16_Nums_J2 (p0 == 20)) (cond (p0 == 21) (F_retraceref16_Nums_J2 (p0 == 21)) (F_retraceref16_Nums_J2 (p0 == 22))))))))))))))
noncomputable def F_retraceref16_Nums (p0 : Int) : Option (Int) :=
  cond (p0 == 9) (F_retraceref16_Nums_J1 p0 (p0 == 9)) (cond (p0 == 14) (F_retraceref16_Nums_J1 p0 (p0 == 14)) (F_retraceref16_Nums_J1 p0 (p0 == 19)))
/- retraceref16_Right -/
noncomputable def F_retraceref16_Right_J2 (x45 : Bool) : Option (Bool) :=
  cond x45 (some false) (some true)
noncomputable def F_retraceref16_Right_J1 (p0 : T_api_Ins) (x23 : Bool) : Option (Bool) :=
  cond x23 (some false) (cond (p0.Op == 14) (cond (decide (p0.B < 0)) (F_retraceref16_Right_J2 true) (cond (p0.Op == 5) (cond (decide (p0.A < 3)) (F_retraceref16_Right_J2 true) (F_retraceref16_Right_J2 (decide (17 < p0.A)))) (F_retraceref16_Right_J2 false))) (cond (p0.Op == 5) (cond (decide (p0.A < 3)) (F_retraceref16_Right_J2 true) (F_retraceref16_Right_J2 (decide (17 < p0.A)))) (F_retraceref16_Right_J2 false)))
noncomputable def F_retraceref16_Right (p0 : T_api_Ins) : Option (Bool) :=
  (F_retraceref16_Nums p0.Op).bind fun y2 => cond (decide (p0.Op < 1)) (F_retraceref16_Right_J1 p0 true) (cond (decide (25 < p0.Op)) (F_retraceref16_Right_J1 p0 true) (cond (y2 == 0) (cond (p0.A != 0) (F_retraceref16_Right_J1 p0 true) (cond (decide (y2 < 2)) (F_retraceref16_Right_J1 p0 (p0.B != 0)) (F_retraceref16_Right_J1 p0 false))) (cond (decide (y2 < 2)) (F_retraceref16_Right_J1 p0 (p0.B != 0)) (F_retraceref16_Right_J1 p0 false))))
/- retraceref20_channel -/
noncomputable def F_retraceref20_channel_J1 (x26 : Int) (x42 : Bool) : Option ((Int) ⊕ (Bool)) :=
  cond x42 ((some true).map Sum.inr) (some (.inl (w64 (x26 + 1))))
noncomputable def F_retraceref20_channel_L2 (p0 : T_api_Code) (p1 : Int) (p2 : Int) (x26 : Int) : Option ((Int) ⊕ (Bool)) :=
  cond (decide (x26 < ((p0.Chans).length : Int))) ((lAt p0.Chans x26).bind fun y46 => cond (y46.Base == p1) ((lAt p0.Chans x26).bind fun y48 => F_retraceref20_channel_J1 x26 (y48.Size == p2)) (F_retraceref20_channel_J1 x26 false)) ((some false).map Sum.inr)
noncomputable def F_retraceref20_channel (p0 : T_api_Code) (p1 : Int) (p2 : Int) : Option (Bool) :=
  Loop (fun s : (Int) => F_retraceref20_channel_L2 p0 p1 p2 s) 0
/- retraceref17_Which -/
noncomputable def F_retraceref17_Which_J1 (x20 : Bool) : Option (Int) :=
  cond x20 (some 1) (some 0)
noncomputable def F_retraceref17_Which (p0 : Int) : Option (Int) :=
  cond (p0 == 19) (some 2) (cond (p0 == 6) (F_retraceref17_Which_J1 true) (cond (p0 == 7) (F_retraceref17_Which_J1 true) (cond (p0 == 8) (F_retraceref17_Which_J1 true) (cond (p0 == 20) (F_retraceref17_Which_J1 true) (cond (p0 == 21) (F_retraceref17_Which_J1 true) (F_retraceref17_Which_J1 (p0 == 22)))))))
/- retraceref20_target -/
noncomputable def F_retraceref20_target (p0 : T_api_Ins) : Option (Int × Bool) :=
  (F_retraceref17_Which p0.Op).bind fun y6 => cond (y6 == 1) (some (p0.A, true)) (cond (y6 == 2) (some (p0.B, true)) (some (0, false)))
/- retraceref20_Chooses -/
noncomputable def F_retraceref20_Chooses_J1 (x2 : Bool) : Option (Bool) :=
  some x2
noncomputable def F_retraceref20_Chooses (p0 : Int) : Option (Bool) :=
  cond (decide (19 ≤ p0)) (F_retraceref20_Chooses_J1 (decide (p0 ≤ 22))) (F_retraceref20_Chooses_J1 false)
/- retraceref20_Settle -/
noncomputable def F_retraceref20_Settle_J1 (p0 : T_api_Code) (x45 : Int) (x46 : Int) (x79 : Bool) : Option ((Int × Int) ⊕ (Int)) :=
  cond x79 ((some x45).map Sum.inr) ((lAt p0.Ins x45).bind fun y83 => some (.inl (y83.A, (w64 (x46 + 1)))))
noncomputable def F_retraceref20_Settle_L2 (p0 : T_api_Code) (p1 : Int) (x45 : Int) (x46 : Int) : Option ((Int × Int) ⊕ (Int)) :=
  cond (decide (x46 ≤ ((p0.Ins).length : Int))) (cond (decide (x45 < 0)) (F_retraceref20_Settle_J1 p0 x45 x46 true) (cond (decide (((p0.Ins).length : Int) ≤ x45)) (F_retraceref20_Settle_J1 p0 x45 x46 true) ((lAt p0.Ins x45).bind fun y86 => F_retraceref20_Settle_J1 p0 x45 x46 (y86.Op != 6)))) ((some p1).map Sum.inr)
noncomputable def F_retraceref20_Settle (p0 : T_api_Code) (p1 : Int) : Option (Int) :=
  Loop (fun s : (Int × Int) => F_retraceref20_Settle_L2 p0 p1 s.1 s.2) (p1, 0)
/- retraceref20_rests -/
noncomputable def F_retraceref20_rests_J1 (x10 : Bool) : Option (Bool) :=
  some x10
noncomputable def F_retraceref20_rests (p0 : T_api_Code) (p1 : Int) (p2 : Int) : Option (Bool) :=
  (F_retraceref20_Settle p0 p2).bind fun y2 => (lAt p0.Defs p1).bind fun y11 => cond (decide (y11.Entry ≤ y2)) ((F_retraceref20_To p0 p1).bind fun y13 => cond (decide (y2 < y13)) ((lAt p0.Ins y2).bind fun y15 => cond (y15.Op == 1) (F_retraceref20_rests_J1 true) ((lAt p0.Ins y2).bind fun y17 => F_retraceref20_rests_J1 (y17.Op == 24))) (F_retraceref20_rests_J1 false)) (F_retraceref20_rests_J1 false)
/- retraceref20_Acts -/
noncomputable def F_retraceref20_Acts_J1 (x5 : Bool) : Option (Bool) :=
  some x5
noncomputable def F_retraceref20_Acts (p0 : Int) : Option (Bool) :=
  cond (p0 == 4) (F_retraceref20_Acts_J1 true) (cond (p0 == 10) (F_retraceref20_Acts_J1 true) (cond (p0 == 11) (F_retraceref20_Acts_J1 true) (cond (decide (12 ≤ p0)) (F_retraceref20_Acts_J1 (decide (p0 ≤ 17))) (F_retraceref20_Acts_J1 false))))
/- retraceref20_may -/
noncomputable def F_retraceref20_may_J7 (x130 : Bool) : Option (Bool) :=
  some x130
noncomputable def F_retraceref20_may_J6 (p0 : T_api_Code) (p1 : Int) (p2 : Int) (y4 : T_api_Ins) : Option (Bool) :=
  (F_retraceref20_Acts y4.Op).bind fun y131 => cond (!y131) (F_retraceref20_may_J7 true) ((F_retraceref20_rests p0 p1 (w64 (p2 + 1))).bind fun y133 => F_retraceref20_may_J7 y133)
noncomputable def F_retraceref20_may_J8 (p0 : T_api_Code) (p1 : Int) (p2 : Int) (y4 : T_api_Ins) (x148 : Bool) : Option (Bool) :=
  cond x148 (some false) (F_retraceref20_may_J6 p0 p1 p2 y4)
noncomputable def F_retraceref20_may_J5 (p0 : T_api_Code) (p1 : Int) (p2 : Int) (y4 : T_api_Ins) (y5 : T_api_Def) (y6 : Int) (x98 : Bool) : Option (Bool) :=
  cond x98 (some false) ((F_retraceref20_target y4).bind fun y135 => cond y135.2 (cond (decide (y135.1 < y5.Entry)) (F_retraceref20_may_J8 p0 p1 p2 y4 true) (cond (decide (y6 ≤ y135.1)) (F_retraceref20_may_J8 p0 p1 p2 y4 true) (cond (decide (y135.1 ≤ p2)) ((lAt p0.Ins y135.1).bind fun y153 => cond (y153.Op != 1) (F_retraceref20_may_J8 p0 p1 p2 y4 true) ((F_retraceref20_Chooses y4.Op).bind fun y155 => cond y155 ((F_retraceref20_rests p0 p1 y135.1).bind fun y157 => F_retraceref20_may_J8 p0 p1 p2 y4 (!y157)) (F_retraceref20_may_J8 p0 p1 p2 y4 false))) ((F_retraceref20_Chooses y4.Op).bind fun y158 => cond y158 ((F_retraceref20_rests p0 p1 y135.1).bind fun y160 => F_retraceref20_may_J8 p0 p1 p2 y4 (!y160)) (F_retraceref20_may_J8 p0 p1 p2 y4 false))))) (F_retraceref20_may_J6 p0 p1 p2 y4))
noncomputable def F_retraceref20_may_J4 (p0 : T_api_Code) (p1 : Int) (p2 : Int) (y4 : T_api_Ins) (y5 : T_api_Def) (y6 : Int) (x82 : Bool) : Option (Bool) :=
  cond x82 (some false) (cond (y4.Op == 14) (cond (decide (y4.A < 0)) (F_retraceref20_may_J5 p0 p1 p2 y4 y5 y6 true) (cond (decide (((p0.Defs).length : Int) ≤ y4.A)) (F_retraceref20_may_J5 p0 p1 p2 y4 y5 y6 true) ((lAt p0.Defs y4.A).bind fun y164 => F_retraceref20_may_J5 p0 p1 p2 y4 y5 y6 (y4.B != y164.Params)))) (F_retraceref20_may_J5 p0 p1 p2 y4 y5 y6 false))
noncomputable def F_retraceref20_may_J3 (p0 : T_api_Code) (p1 : Int) (p2 : Int) (y4 : T_api_Ins) (y5 : T_api_Def) (y6 : Int) (x55 : Bool) : Option (Bool) :=
  cond x55 (cond (decide (y4.A < 0)) (F_retraceref20_may_J4 p0 p1 p2 y4 y5 y6 true) ((lAt p0.Defs p1).bind fun y167 => cond (decide (y167.Vars ≤ y4.A)) (F_retraceref20_may_J4 p0 p1 p2 y4 y5 y6 true) (cond (y4.Op == 9) ((F_retraceref20_channel p0 y4.A y4.B).bind fun y170 => F_retraceref20_may_J4 p0 p1 p2 y4 y5 y6 (!y170)) (F_retraceref20_may_J4 p0 p1 p2 y4 y5 y6 false)))) (cond (y4.Op == 9) ((F_retraceref20_channel p0 y4.A y4.B).bind fun y172 => F_retraceref20_may_J4 p0 p1 p2 y4 y5 y6 (!y172)) (F_retraceref20_may_J4 p0 p1 p2 y4 y5 y6 false))
noncomputable def F_retraceref20_may_J2 (p0 : T_api_Code) (p1 : Int) (p2 : Int) (y4 : T_api_Ins) (y5 : T_api_Def) (y6 : Int) (x49 : Bool) : Option (Bool) :=
  cond x49 (some false) (cond (y4.Op == 3) (F_retraceref20_may_J3 p0 p1 p2 y4 y5 y6 true) (cond (y4.Op == 4) (F_retraceref20_may_J3 p0 p1 p2 y4 y5 y6 true) (cond (y4.Op == 11) (F_retraceref20_may_J3 p0 p1 p2 y4 y5 y6 true) (cond (y4.Op == 12) (F_retraceref20_may_J3 p0 p1 p2 y4 y5 y6 true) (F_retraceref20_may_J3 p0 p1 p2 y4 y5 y6 (y4.Op == 19))))))
noncomputable def F_retraceref20_may_J1 (p0 : T_api_Code) (p1 : Int) (p2 : Int) (p3 : Int) (y4 : T_api_Ins) (y5 : T_api_Def) (y6 : Int) (x27 : Bool) : Option (Bool) :=
  cond x27 (some false) (cond (p2 == y5.Entry) (cond (y4.Op != 1) (cond (y4.Op != 24) (F_retraceref20_may_J2 p0 p1 p2 y4 y5 y6 true) (cond (y4.Op == 1) (F_retraceref20_may_J2 p0 p1 p2 y4 y5 y6 (y4.A != p3)) (F_retraceref20_may_J2 p0 p1 p2 y4 y5 y6 false))) (cond (y4.Op == 1) (F_retraceref20_may_J2 p0 p1 p2 y4 y5 y6 (y4.A != p3)) (F_retraceref20_may_J2 p0 p1 p2 y4 y5 y6 false))) (cond (y4.Op == 1) (F_retraceref20_may_J2 p0 p1 p2 y4 y5 y6 (y4.A != p3)) (F_retraceref20_may_J2 p0 p1 p2 y4 y5 y6 false)))
noncomputable def F_retraceref20_may (p0 : T_api_Code) (p1 : Int) (p2 : Int) (p3 : Int) : Option (Bool) :=
  (lAt p0.Ins p2).bind fun y4 => (lAt p0.Defs p1).bind fun y5 => (F_retraceref20_To p0 p1).bind fun y6 => (F_retraceref16_Right y4).bind fun y183 => cond (!y183) (F_retraceref20_may_J1 p0 p1 p2 p3 y4 y5 y6 true) (cond (y4.Op == 24) (cond (p2 != (w64 (y6 - 1))) (F_retraceref20_may_J1 p0 p1 p2 p3 y4 y5 y6 true) (cond (y4.Op != 24) (F_retraceref20_may_J1 p0 p1 p2 p3 y4 y5 y6 (p2 == (w64 (y6 - 1)))) (F_retraceref20_may_J1 p0 p1 p2 p3 y4 y5 y6 false))) (cond (y4.Op != 24) (F_retraceref20_may_J1 p0 p1 p2 p3 y4 y5 y6 (p2 == (w64 (y6 - 1)))) (F_retraceref20_may_J1 p0 p1 p2 p3 y4 y5 y6 false)))
/- retraceref15_Wide -/
noncomputable def F_retraceref15_Wide_J2 (x13 : Bool) : Option (Int) :=
  cond x13 (some 2) (some 0)
noncomputable def F_retraceref15_Wide_J1 (p0 : Int) (x6 : Bool) : Option (Int) :=
  cond x6 (some 1) (cond (decide (5 ≤ p0)) (F_retraceref15_Wide_J2 (decide (p0 ≤ 17))) (F_retraceref15_Wide_J2 false))
noncomputable def F_retraceref15_Wide (p0 : Int) : Option (Int) :=
  cond (p0 == 3) (F_retraceref15_Wide_J1 p0 true) (F_retraceref15_Wide_J1 p0 (p0 == 4))
/- retraceref16_Takes -/
noncomputable def F_retraceref16_Takes_J1  : Option (Int) :=
  some 0
noncomputable def F_retraceref16_Takes_J3 (x55 : Bool) : Option (Int) :=
  cond x55 (some 1) (F_retraceref16_Takes_J1)
noncomputable def F_retraceref16_Takes_J2 (p0 : T_api_Ins) (x44 : Bool) : Option (Int) :=
  cond x44 (some 2) (cond (p0.Op == 4) (F_retraceref16_Takes_J3 (p0.Op == 4)) (cond (p0.Op == 7) (F_retraceref16_Takes_J3 (p0.Op == 7)) (cond (p0.Op == 8) (F_retraceref16_Takes_J3 (p0.Op == 8)) (cond (p0.Op == 11) (F_retraceref16_Takes_J3 (p0.Op == 11)) (cond (p0.Op == 12) (F_retraceref16_Takes_J3 (p0.Op == 12)) (cond (p0.Op == 13) (F_retraceref16_Takes_J3 (p0.Op == 13)) (cond (p0.Op == 15) (F_retraceref16_Takes_J3 (p0.Op == 15)) (cond (p0.Op == 16) (F_retraceref16_Takes_J3 (p0.Op == 16)) (cond (p0.Op == 19) (F_retraceref16_Takes_J3 (p0.Op == 19)) (F_retraceref16_Takes_J3 (p0.Op == 21)))))))))))
noncomputable def F_retraceref16_Takes (p0 : T_api_Ins) : Option (Int) :=
  (F_retraceref16_Right p0).bind fun y5 => cond (!y5) (some 0) (cond (p0.Op == 5) ((F_retraceref15_Wide p0.A).bind fun y39 => some y39) (cond (p0.Op == 14) (some p0.B) (cond (p0.Op == 9) (cond (decide (0 < p0.B)) (some 1) (F_retraceref16_Takes_J1)) (cond (p0.Op == 10) (F_retraceref16_Takes_J2 p0 (p0.Op == 10)) (F_retraceref16_Takes_J2 p0 (p0.Op == 20))))))
/- retraceref20_fits -/
noncomputable def F_retraceref20_fits_J2 (x19 : Bool) : Option (Bool) :=
  some x19
noncomputable def F_retraceref20_fits_J3 (x27 : Bool) : Option (Bool) :=
  some x27
noncomputable def F_retraceref20_fits_J4 (x39 : Bool) : Option (Bool) :=
  some x39
noncomputable def F_retraceref20_fits_J6 (x55 : Bool) : Option (Bool) :=
  some x55
noncomputable def F_retraceref20_fits_J5 (p1 : T_retraceref20_Is) (y2 : Int) (x52 : Bool) : Option (Bool) :=
  cond x52 (cond ((w64 (p1.N - y2)) == 0) (F_retraceref20_fits_J6 (!p1.Choose)) (F_retraceref20_fits_J6 false)) (some true)
noncomputable def F_retraceref20_fits_J1 (p0 : T_api_Ins) (p1 : T_retraceref20_Is) (y2 : Int) (x16 : Bool) : Option (Bool) :=
  cond x16 (cond (p1.N == 0) (F_retraceref20_fits_J2 (!p1.Choose)) (F_retraceref20_fits_J2 false)) (cond (p0.Op == 23) (cond (p1.N == 0) (F_retraceref20_fits_J3 p1.Choose) (F_retraceref20_fits_J3 false)) ((F_retraceref20_Chooses p0.Op).bind fun y36 => cond y36 (cond ((w64 (p1.N - y2)) == 0) (F_retraceref20_fits_J4 p1.Choose) (F_retraceref20_fits_J4 false)) ((F_retraceref20_Acts p0.Op).bind fun y57 => cond y57 (F_retraceref20_fits_J5 p1 y2 true) (F_retraceref20_fits_J5 p1 y2 (p0.Op == 18)))))
noncomputable def F_retraceref20_fits (p0 : T_api_Ins) (p1 : T_retraceref20_Is) : Option (Bool) :=
  (F_retraceref16_Takes p0).bind fun y2 => cond (decide ((w64 (p1.N - y2)) < 0)) (some false) (cond (p0.Op == 1) (F_retraceref20_fits_J1 p0 p1 y2 true) (cond (p0.Op == 24) (F_retraceref20_fits_J1 p0 p1 y2 true) (F_retraceref20_fits_J1 p0 p1 y2 (p0.Op == 25))))
/- retraceref16_Gives -/
noncomputable def F_retraceref16_Gives_J1 (x18 : Bool) : Option (Int) :=
  cond x18 (some 1) (some 0)
noncomputable def F_retraceref16_Gives (p0 : T_api_Ins) : Option (Int) :=
  (F_retraceref16_Right p0).bind fun y20 => cond y20 (cond (p0.Op == 2) (F_retraceref16_Gives_J1 true) (cond (p0.Op == 3) (F_retraceref16_Gives_J1 true) (cond (p0.Op == 5) (F_retraceref16_Gives_J1 true) (F_retraceref16_Gives_J1 (p0.Op == 9))))) (F_retraceref16_Gives_J1 false)
/- retraceref20_meets -/
noncomputable def F_retraceref20_meets (p1 : Int) (p2 : Int) (p3 : T_retraceref20_Is) (o0 : (List T_retraceref20_Is)) : Option (((List T_retraceref20_Is) × Bool) ⊕ ((List T_retraceref20_Is) × Bool)) :=
  cond (decide (p2 ≤ p1)) (some (.inl (o0, ((p3.Come == true) && ((p3.N == 0) && ((p3.Choose == false) && true)))))) ((lAt o0 p2).bind fun y9 => cond y9.Come ((lAt o0 p2).bind fun y12 => some (.inl (o0, ((y12.Come == p3.Come) && ((y12.N == p3.N) && ((y12.Choose == p3.Choose) && true)))))) (grd (((([] : List T_retraceref20_Is)).length + (o0).length) * 24 ≤ 140737488355328) <| (lAt (([] : List T_retraceref20_Is) ++ o0) p2).bind fun y16 => some (.inr ((List.set (([] : List T_retraceref20_Is) ++ o0) (Int.toNat p2) p3), true))))
/- retraceref20_Flow -/
noncomputable def F_retraceref20_Flow_J1 (x228 : Int) (x337 : (List T_retraceref20_Is)) : Option ((Int × (List T_retraceref20_Is)) ⊕ ((List T_retraceref20_Is) × Int)) :=
  some (.inl ((w64 (x228 + 1)), x337))
noncomputable def F_retraceref20_Flow_J5 (x228 : Int) (x405 : Bool) (x406 : (List T_retraceref20_Is)) : Option ((Int × (List T_retraceref20_Is)) ⊕ ((List T_retraceref20_Is) × Int)) :=
  cond (!x405) ((some (x406, x228)).map Sum.inr) (F_retraceref20_Flow_J1 x228 x406)
noncomputable def F_retraceref20_Flow_J6 (x228 : Int) (x372 : Int) (x373 : Bool) (x388 : Bool) (x389 : (List T_retraceref20_Is)) (x413 : Bool) : Option ((Int × (List T_retraceref20_Is)) ⊕ ((List T_retraceref20_Is) × Int)) :=
  cond x413 ((F_retraceref20_meets x228 (w64 (x228 + 1)) (⟨true, x372, x373⟩ : T_retraceref20_Is) x389).bind fun y415 => (Sum.elim (fun y416 => F_retraceref20_Flow_J5 x228 y416.2 y416.1) (fun y417 => F_retraceref20_Flow_J5 x228 y417.2 y417.1)) y415) (F_retraceref20_Flow_J5 x228 x388 x389)
noncomputable def F_retraceref20_Flow_J4 (x228 : Int) (y354 : T_api_Ins) (x372 : Int) (x373 : Bool) (x388 : Bool) (x389 : (List T_retraceref20_Is)) : Option ((Int × (List T_retraceref20_Is)) ⊕ ((List T_retraceref20_Is) × Int)) :=
  cond (!x388) ((some (x389, x228)).map Sum.inr) (cond (y354.Op != 6) (cond (y354.Op != 18) (cond (y354.Op != 23) (F_retraceref20_Flow_J6 x228 x372 x373 x388 x389 (y354.Op != 24)) (F_retraceref20_Flow_J6 x228 x372 x373 x388 x389 false)) (F_retraceref20_Flow_J6 x228 x372 x373 x388 x389 false)) (F_retraceref20_Flow_J6 x228 x372 x373 x388 x389 false))
noncomputable def F_retraceref20_Flow_J7 (x228 : Int) (x229 : (List T_retraceref20_Is)) (y352 : T_retraceref20_Is) (y354 : T_api_Ins) (x372 : Int) (x373 : Bool) (y422 : Int × Bool) (x427 : Int) (x428 : Bool) : Option ((Int × (List T_retraceref20_Is)) ⊕ ((List T_retraceref20_Is) × Int)) :=
  (F_retraceref20_meets x228 y422.1 (⟨true, x427, x428⟩ : T_retraceref20_Is) (List.set x229 (Int.toNat x228) (⟨true, y352.N, y352.Choose⟩ : T_retraceref20_Is))).bind fun y429 => (Sum.elim (fun y430 => F_retraceref20_Flow_J4 x228 y354 x372 x373 y430.2 y430.1) (fun y431 => F_retraceref20_Flow_J4 x228 y354 x372 x373 y431.2 y431.1)) y429
noncomputable def F_retraceref20_Flow_J3 (x228 : Int) (x229 : (List T_retraceref20_Is)) (y352 : T_retraceref20_Is) (y354 : T_api_Ins) (x372 : Int) (x373 : Bool) : Option ((Int × (List T_retraceref20_Is)) ⊕ ((List T_retraceref20_Is) × Int)) :=
  (F_retraceref20_target y354).bind fun y422 => cond y422.2 ((F_retraceref20_Chooses y354.Op).bind fun y433 => cond y433 (F_retraceref20_Flow_J7 x228 x229 y352 y354 x372 x373 y422 0 false) (F_retraceref20_Flow_J7 x228 x229 y352 y354 x372 x373 y422 x372 x373)) (F_retraceref20_Flow_J4 x228 y354 x372 x373 true (List.set x229 (Int.toNat x228) (⟨true, y352.N, y352.Choose⟩ : T_retraceref20_Is)))
noncomputable def F_retraceref20_Flow_J2 (p0 : T_api_Code) (x228 : Int) (x229 : (List T_retraceref20_Is)) (x349 : Bool) : Option ((Int × (List T_retraceref20_Is)) ⊕ ((List T_retraceref20_Is) × Int)) :=
  cond x349 (F_retraceref20_Flow_J1 x228 x229) ((lAt x229 x228).bind fun y352 => (lAt p0.Ins x228).bind fun y354 => (lAt (List.set x229 (Int.toNat x228) (⟨true, y352.N, y352.Choose⟩ : T_retraceref20_Is)) x228).bind fun y362 => (F_retraceref20_fits y354 y362).bind fun y363 => cond (!y363) ((some ((List.set x229 (Int.toNat x228) (⟨true, y352.N, y352.Choose⟩ : T_retraceref20_Is)), x228)).map Sum.inr) ((lAt (List.set x229 (Int.toNat x228) (⟨true, y352.N, y352.Choose⟩ : T_retraceref20_Is)) x228).bind fun y435 => (F_retraceref16_Takes y354).bind fun y436 => (F_retraceref16_Gives y354).bind fun y437 => (lAt (List.set x229 (Int.toNat x228) (⟨true, y352.N, y352.Choose⟩ : T_retraceref20_Is)) x228).bind fun y438 => cond y438.Choose (F_retraceref20_Flow_J3 x228 x229 y352 y354 (w64 ((w64 (y435.N - y436)) + y437)) true) (F_retraceref20_Flow_J3 x228 x229 y352 y354 (w64 ((w64 (y435.N - y436)) + y437)) (y354.Op == 25))))
noncomputable def F_retraceref20_Flow_L8 (p0 : T_api_Code) (p1 : Int) (x228 : Int) (x229 : (List T_retraceref20_Is)) : Option ((Int × (List T_retraceref20_Is)) ⊕ ((List T_retraceref20_Is) × Int)) :=
  (F_retraceref20_To p0 p1).bind fun y236 => cond (decide (x228 < y236)) ((lAt x229 x228).bind fun y440 => cond (!y440.Come) ((lAt p0.Ins x228).bind fun y442 => F_retraceref20_Flow_J2 p0 x228 x229 (y442.Op != 1)) (F_retraceref20_Flow_J2 p0 x228 x229 false)) ((some (x229, (-1))).map Sum.inr)
noncomputable def F_retraceref20_Flow (p0 : T_api_Code) (p1 : Int) : Option ((List T_retraceref20_Is) × Int) :=
  grd ((0 : Int) ≤ (w64 (((p0.Ins).length : Int) + 1)) ∧ (w64 (((p0.Ins).length : Int) + 1)) ≤ (w64 (((p0.Ins).length : Int) + 1)) ∧ (w64 (((p0.Ins).length : Int) + 1)) ≤ 281474976710656 ∧ (24 : Int) * (w64 (((p0.Ins).length : Int) + 1)) ≤ 281474976710656) <| (lAt p0.Defs p1).bind fun y5 => (lAt (List.replicate (Int.toNat (w64 (((p0.Ins).length : Int) + 1))) (⟨false, 0, false⟩ : T_retraceref20_Is)) y5.Entry).bind fun y6 => (lAt p0.Defs p1).bind fun y227 => Loop (fun s : (Int × (List T_retraceref20_Is)) => F_retraceref20_Flow_L8 p0 p1 s.1 s.2) (y227.Entry, (List.set (List.replicate (Int.toNat (w64 (((p0.Ins).length : Int) + 1))) (⟨false, 0, false⟩ : T_retraceref20_Is)) (Int.toNat y5.Entry) (⟨true, y6.N, y6.Choose⟩ : T_retraceref20_Is)))
/- retraceref20_Check -/
noncomputable def F_retraceref20_Check_J1 (x160 : Int) (x182 : Int) : Option ((Int × Int) ⊕ ((Int × Int) ⊕ ((List Int)))) :=
  some (.inl (x182, (w64 (x160 + 1))))
noncomputable def F_retraceref20_Check_L2 (p0 : T_api_Code) (x109 : Int) (x159 : Int) (x160 : Int) : Option ((Int × Int) ⊕ ((Int × Int) ⊕ ((List Int)))) :=
  (F_retraceref20_To p0 x109).bind fun y167 => cond (decide (x160 < y167)) ((F_retraceref20_may p0 x109 x160 x159).bind fun y189 => cond (!y189) (grd ((([x160, 15] : List Int)).length = 2 ∧ ((List.replicate 2 (0 : Int))).length = 2) <| ((grd ((([x160, 15] : List Int)).length = 2) <| some ([x160, 15] : List Int)).map Sum.inr).map Sum.inr) ((lAt p0.Ins x160).bind fun y199 => cond (y199.Op == 1) (F_retraceref20_Check_J1 x160 (w64 (x159 + 1))) (F_retraceref20_Check_J1 x160 x159))) ((some (.inl (x159, (w64 (x109 + 1))))).map Sum.inr)
noncomputable def F_retraceref20_Check_L3 (p0 : T_api_Code) (x231 : Int) : Option ((Int) ⊕ ((List Int))) :=
  cond (decide (x231 < ((p0.Defs).length : Int))) ((F_retraceref20_Flow p0 x231).bind fun y242 => cond (decide (0 ≤ y242.2)) (grd ((([y242.2, 14] : List Int)).length = 2 ∧ ((List.replicate 2 (0 : Int))).length = 2) <| (grd ((([y242.2, 14] : List Int)).length = 2) <| some ([y242.2, 14] : List Int)).map Sum.inr) (some (.inl (w64 (x231 + 1))))) ((grd ((([0, 0] : List Int)).length = 2 ∧ ((List.replicate 2 (0 : Int))).length = 2) <| grd ((([0, 0] : List Int)).length = 2) <| some ([0, 0] : List Int)).map Sum.inr)
noncomputable def F_retraceref20_Check_L4 (p0 : T_api_Code) (x108 : Int) (x109 : Int) : Option ((Int × Int) ⊕ ((List Int))) :=
  cond (decide (x109 < ((p0.Defs).length : Int))) ((lAt p0.Defs x109).bind fun y158 => Loop (fun s : (Int × Int) => F_retraceref20_Check_L2 p0 x109 s.1 s.2) (x108, y158.Entry)) ((cond (x108 != p0.Stmts) (grd ((([0, 3] : List Int)).length = 2 ∧ ((List.replicate 2 (0 : Int))).length = 2) <| grd ((([0, 3] : List Int)).length = 2) <| some ([0, 3] : List Int)) (Loop (fun s : (Int) => F_retraceref20_Check_L3 p0 s) 0)).map Sum.inr)
noncomputable def F_retraceref20_Check (p0 : T_api_Code) : Option ((List Int)) :=
  (F_retraceref20_tables p0).bind fun y7 => cond (!y7) (grd ((([0, 3] : List Int)).length = 2 ∧ ((List.replicate 2 (0 : Int))).length = 2) <| grd ((([0, 3] : List Int)).length = 2) <| some ([0, 3] : List Int)) (Loop (fun s : (Int × Int) => F_retraceref20_Check_L4 p0 s.1 s.2) (0, 0))
/- retraceref20_Right -/
noncomputable def F_retraceref20_Right (p0 : T_api_Code) : Option (Bool) :=
  (F_retraceref20_Check p0).bind fun y3 => grd ((y3).length = 2 ∧ (([0, 0] : List Int)).length = 2) <| some (y3 == ([0, 0] : List Int))
/- retraceref22_from -/
noncomputable def F_retraceref22_from_J1 (x2 : Bool) : Option (Bool) :=
  some x2
noncomputable def F_retraceref22_from (p0 : Int) (p1 : Int) : Option (Bool) :=
  cond (decide (0 ≤ p0)) (F_retraceref22_from_J1 (decide (p0 < p1))) (F_retraceref22_from_J1 false)
/- retraceref20_Routine -/
noncomputable def F_retraceref20_Routine_J2 (x27 : Int) (x43 : Int) : Option ((Int × Int) ⊕ (Int)) :=
  some (.inl (x43, (w64 (x27 + 1))))
noncomputable def F_retraceref20_Routine_J1 (p0 : T_api_Code) (p1 : Int) (x26 : Int) (x27 : Int) (x38 : Bool) : Option ((Int × Int) ⊕ (Int)) :=
  cond x38 ((lAt p0.Defs x27).bind fun y45 => cond (decide (y45.Entry ≤ p1)) (F_retraceref20_Routine_J2 x27 x27) (F_retraceref20_Routine_J2 x27 x26)) ((some x26).map Sum.inr)
noncomputable def F_retraceref20_Routine_L3 (p0 : T_api_Code) (p1 : Int) (x26 : Int) (x27 : Int) : Option ((Int × Int) ⊕ (Int)) :=
  cond (decide (x27 < ((p0.Defs).length : Int))) (cond (decide (0 ≤ p1)) (F_retraceref20_Routine_J1 p0 p1 x26 x27 (decide (p1 < ((p0.Ins).length : Int)))) (F_retraceref20_Routine_J1 p0 p1 x26 x27 false)) (F_retraceref20_Routine_J1 p0 p1 x26 x27 false)
noncomputable def F_retraceref20_Routine (p0 : T_api_Code) (p1 : Int) : Option (Int) :=
  Loop (fun s : (Int × Int) => F_retraceref20_Routine_L3 p0 p1 s.1 s.2) ((-1), 0)
/- retraceref22_is -/
noncomputable def F_retraceref22_is_J1 (x5 : Bool) : Option (Bool) :=
  some x5
noncomputable def F_retraceref22_is (p0 : T_api_Code) (p1 : Int) (p2 : Int) (p3 : Int) : Option (Bool) :=
  (F_retraceref20_Routine p0 p2).bind fun y6 => cond (y6 == p1) (cond (decide (0 ≤ p1)) ((lAt p0.Ins p2).bind fun y9 => F_retraceref22_is_J1 (y9.Op == p3)) (F_retraceref22_is_J1 false)) (F_retraceref22_is_J1 false)
/- retraceref22_Rests -/
noncomputable def F_retraceref22_Rests_J1 (x4 : Bool) : Option (Bool) :=
  some x4
noncomputable def F_retraceref22_Rests (p0 : T_api_Code) (p1 : Int) (p2 : Int) : Option (Bool) :=
  (F_retraceref22_is p0 p1 p2 1).bind fun y5 => cond y5 (F_retraceref22_Rests_J1 true) ((F_retraceref22_is p0 p1 p2 24).bind fun y7 => F_retraceref22_Rests_J1 y7)
/- retraceref22_Chans -/
noncomputable def F_retraceref22_Chans_J1 (x19 : Int) (x28 : Int) : Option ((Int × Int) ⊕ (Int)) :=
  some (.inl (x28, (w64 (x19 + 1))))
noncomputable def F_retraceref22_Chans_L2 (p0 : T_api_Code) (x18 : Int) (x19 : Int) : Option ((Int × Int) ⊕ (Int)) :=
  cond (decide (x19 < ((p0.Chans).length : Int))) ((lAt p0.Chans x19).bind fun y30 => cond (decide (0 < y30.Size)) ((lAt p0.Chans x19).bind fun y32 => F_retraceref22_Chans_J1 x19 (w64 (x18 + y32.Size))) (F_retraceref22_Chans_J1 x19 (w64 (x18 + 1)))) ((some x18).map Sum.inr)
noncomputable def F_retraceref22_Chans (p0 : T_api_Code) : Option (Int) :=
  Loop (fun s : (Int × Int) => F_retraceref22_Chans_L2 p0 s.1 s.2) (0, 0)
/- retraceref22_alt -/
noncomputable def F_retraceref22_alt_J1 (x41 : Bool) : Option (Bool) :=
  some x41
noncomputable def F_retraceref22_alt_J2 (x51 : Bool) : Option (Bool) :=
  some x51
noncomputable def F_retraceref22_alt_J3 (x59 : Bool) : Option (Bool) :=
  some x59
noncomputable def F_retraceref22_alt (p0 : T_api_Code) (p1 : T_api_Proc) (p2 : T_api_Alt) : Option (Bool) :=
  (F_retraceref22_Rests p0 p1.Def p2.Goto).bind fun y5 => cond (!y5) (some false) (cond (p2.Kind == 1) ((F_retraceref22_Chans p0).bind fun y42 => (F_retraceref22_from p2.Chan y42).bind fun y43 => cond y43 ((F_retraceref22_from p2.Slot ((p1.Vars).length : Int)).bind fun y45 => cond y45 (F_retraceref22_alt_J1 (p2.Val == 0)) (F_retraceref22_alt_J1 false)) (F_retraceref22_alt_J1 false)) (cond (p2.Kind == 2) ((F_retraceref22_Chans p0).bind fun y52 => (F_retraceref22_from p2.Chan y52).bind fun y53 => cond y53 (F_retraceref22_alt_J2 (p2.Slot == 0)) (F_retraceref22_alt_J2 false)) (cond (p2.Kind == 3) ((F_retraceref22_from p2.Val 1099511627777).bind fun y60 => cond y60 (cond (p2.Chan == 0) (F_retraceref22_alt_J3 (p2.Slot == 0)) (F_retraceref22_alt_J3 false)) (F_retraceref22_alt_J3 false)) (some false))))
/- retraceref22_Is -/
noncomputable def F_retraceref22_Is_J6 (x210 : Bool) : Option (Bool) :=
  some x210
noncomputable def F_retraceref22_Is_J7 (x222 : Bool) : Option (Bool) :=
  some x222
noncomputable def F_retraceref22_Is_J8 (x233 : Bool) : Option (Bool) :=
  some x233
noncomputable def F_retraceref22_Is_L9 (p0 : T_api_Code) (p1 : T_api_Proc) (x258 : Int) : Option ((Int) ⊕ (Bool)) :=
  cond (decide (x258 < ((p1.Alts).length : Int))) ((lAt p1.Alts x258).bind fun y270 => (F_retraceref22_alt p0 p1 y270).bind fun y271 => cond (!y271) ((some false).map Sum.inr) (some (.inl (w64 (x258 + 1))))) (((F_retraceref22_is p0 p1.Def p1.At 1).bind fun y278 => some y278).map Sum.inr)
noncomputable def F_retraceref22_Is_J5 (p0 : T_api_Code) (p1 : T_api_Proc) (x201 : Bool) : Option (Bool) :=
  cond x201 ((F_retraceref22_is p0 p1.Def p1.At 1).bind fun y204 => some y204) (cond (p1.Mode == 1) ((F_retraceref22_Rests p0 p1.Def p1.At).bind fun y211 => cond y211 ((F_retraceref22_Chans p0).bind fun y213 => (F_retraceref22_from p1.Chan y213).bind fun y214 => F_retraceref22_Is_J6 y214) (F_retraceref22_Is_J6 false)) (cond (p1.Mode == 2) ((F_retraceref22_Rests p0 p1.Def p1.At).bind fun y223 => cond y223 ((F_retraceref22_Chans p0).bind fun y225 => (F_retraceref22_from p1.Chan y225).bind fun y226 => cond y226 ((F_retraceref22_from p1.Slot ((p1.Vars).length : Int)).bind fun y228 => F_retraceref22_Is_J7 y228) (F_retraceref22_Is_J7 false)) (F_retraceref22_Is_J7 false)) (cond (p1.Mode == 4) ((F_retraceref22_Rests p0 p1.Def p1.At).bind fun y234 => cond y234 ((F_retraceref22_from p1.Until 1099511627777).bind fun y236 => F_retraceref22_Is_J8 y236) (F_retraceref22_Is_J8 false)) (cond (p1.Mode == 5) (some (p1.At == 0)) (cond (p1.Mode == 3) (Loop (fun s : (Int) => F_retraceref22_Is_L9 p0 p1 s) 0) (some false))))))
noncomputable def F_retraceref22_Is_J4 (p0 : T_api_Code) (p1 : T_api_Proc) (x118 : Bool) : Option (Bool) :=
  cond x118 (some false) (cond (p1.Mode == 0) (F_retraceref22_Is_J5 p0 p1 (p1.Mode == 0)) (F_retraceref22_Is_J5 p0 p1 (p1.Mode == 6)))
noncomputable def F_retraceref22_Is_J3 (p0 : T_api_Code) (p1 : T_api_Proc) (x27 : Bool) (x96 : Bool) : Option (Bool) :=
  cond x96 (some false) (cond (!x27) (cond (p1.Mode != 3) (cond (p1.Since != 0) (F_retraceref22_Is_J4 p0 p1 true) (cond (p1.Mode != 3) (F_retraceref22_Is_J4 p0 p1 (decide (0 < ((p1.Alts).length : Int)))) (F_retraceref22_Is_J4 p0 p1 false))) (cond (p1.Mode != 3) (F_retraceref22_Is_J4 p0 p1 (decide (0 < ((p1.Alts).length : Int)))) (F_retraceref22_Is_J4 p0 p1 false))) (cond (p1.Mode != 3) (F_retraceref22_Is_J4 p0 p1 (decide (0 < ((p1.Alts).length : Int)))) (F_retraceref22_Is_J4 p0 p1 false)))
noncomputable def F_retraceref22_Is_J2 (p0 : T_api_Code) (p1 : T_api_Proc) (x27 : Bool) : Option (Bool) :=
  cond (!x27) (cond (p1.Chan != 0) (F_retraceref22_Is_J3 p0 p1 x27 true) (cond (p1.Mode != 1) (cond (p1.Val != 0) (F_retraceref22_Is_J3 p0 p1 x27 true) (cond (p1.Mode != 2) (cond (p1.Slot != 0) (F_retraceref22_Is_J3 p0 p1 x27 true) (cond (p1.Mode != 4) (F_retraceref22_Is_J3 p0 p1 x27 (p1.Until != 0)) (F_retraceref22_Is_J3 p0 p1 x27 false))) (cond (p1.Mode != 4) (F_retraceref22_Is_J3 p0 p1 x27 (p1.Until != 0)) (F_retraceref22_Is_J3 p0 p1 x27 false)))) (cond (p1.Mode != 2) (cond (p1.Slot != 0) (F_retraceref22_Is_J3 p0 p1 x27 true) (cond (p1.Mode != 4) (F_retraceref22_Is_J3 p0 p1 x27 (p1.Until != 0)) (F_retraceref22_Is_J3 p0 p1 x27 false))) (cond (p1.Mode != 4) (F_retraceref22_Is_J3 p0 p1 x27 (p1.Until != 0)) (F_retraceref22_Is_J3 p0 p1 x27 false))))) (cond (p1.Mode != 1) (cond (p1.Val != 0) (F_retraceref22_Is_J3 p0 p1 x27 true) (cond (p1.Mode != 2) (cond (p1.Slot != 0) (F_retraceref22_Is_J3 p0 p1 x27 true) (cond (p1.Mode != 4) (F_retraceref22_Is_J3 p0 p1 x27 (p1.Until != 0)) (F_retraceref22_Is_J3 p0 p1 x27 false))) (cond (p1.Mode != 4) (F_retraceref22_Is_J3 p0 p1 x27 (p1.Until != 0)) (F_retraceref22_Is_J3 p0 p1 x27 false)))) (cond (p1.Mode != 2) (cond (p1.Slot != 0) (F_retraceref22_Is_J3 p0 p1 x27 true) (cond (p1.Mode != 4) (F_retraceref22_Is_J3 p0 p1 x27 (p1.Until != 0)) (F_retraceref22_Is_J3 p0 p1 x27 false))) (cond (p1.Mode != 4) (F_retraceref22_Is_J3 p0 p1 x27 (p1.Until != 0)) (F_retraceref22_Is_J3 p0 p1 x27 false))))
noncomputable def F_retraceref22_Is_J1 (p0 : T_api_Code) (p1 : T_api_Proc) (x24 : Bool) : Option (Bool) :=
  cond x24 (some false) (cond (p1.Mode == 1) (F_retraceref22_Is_J2 p0 p1 true) (F_retraceref22_Is_J2 p0 p1 (p1.Mode == 2)))
noncomputable def F_retraceref22_Is (p0 : T_api_Code) (p1 : T_api_Proc) : Option (Bool) :=
  (F_retraceref22_from p1.Def ((p0.Defs).length : Int)).bind fun y309 => cond (!y309) (F_retraceref22_Is_J1 p0 p1 true) ((lAt p0.Defs p1.Def).bind fun y311 => cond (((p1.Vars).length : Int) != y311.Vars) (F_retraceref22_Is_J1 p0 p1 true) ((F_retraceref22_from p1.Fuel 1048577).bind fun y313 => cond (!y313) (F_retraceref22_Is_J1 p0 p1 true) ((F_retraceref22_from p1.Since 1099511627777).bind fun y315 => F_retraceref22_Is_J1 p0 p1 (!y315))))
/- retraceref19_Text -/
noncomputable def F_retraceref19_Text (p0 : ByteArray) : Option (T_retraceref19_Got) :=
  cond (sEq p0 ⟨#[109, 97, 105, 110, 32, 123, 32, 118, 97, 114, 32, 120, 32, 61, 32, 49, 32, 47, 32, 48, 59, 32, 125]⟩) (some ⟨⟨[⟨1, 0, 0⟩, ⟨2, 1, 0⟩, ⟨2, 0, 0⟩, ⟨5, 8, 0⟩, ⟨4, 0, 0⟩, ⟨24, 0, 0⟩], [⟨⟨#[109, 97, 105, 110]⟩, 0, 0, 1⟩], [], 0, 1⟩, 0, 0⟩) none
/- code_Stmt -/
noncomputable def F_code_Stmt_J1 (p0 : T_api_Code) (p1 : Int) (x12 : Bool) : Option (Int) :=
  cond x12 (some (-1)) ((lAt p0.Ins p1).bind fun y15 => some y15.A)
noncomputable def F_code_Stmt (p0 : T_api_Code) (p1 : Int) : Option (Int) :=
  cond (decide (p1 < 0)) (F_code_Stmt_J1 p0 p1 true) (cond (decide (((p0.Ins).length : Int) ≤ p1)) (F_code_Stmt_J1 p0 p1 true) ((lAt p0.Ins p1).bind fun y18 => F_code_Stmt_J1 p0 p1 (y18.Op != 1)))
/- stack_New_int -/
noncomputable def F_stack_New_int (p0 : Int) : Option (T_stack_Stack_int_) :=
  some (⟨([] : (List Int)), (if 0 > p0 then 0 else p0)⟩ : T_stack_Stack_int_)
/- stack_Stack_int_Room -/
noncomputable def F_stack_Stack_int_Room (o0 : T_stack_Stack_int_) : Option (Int) :=
  some (w64 (o0.most - ((o0.l).length : Int)))
/- stack_Stack_int_Push -/
noncomputable def F_stack_Stack_int_Push (p1 : Int) (o0 : T_stack_Stack_int_) : Option (Bool × T_stack_Stack_int_) :=
  (F_stack_Stack_int_Room o0).bind fun y5 => cond (y5 == 0) (some (false, o0)) (grd (((o0.l).length + ([p1]).length) * 8 ≤ 140737488355328) <| some (true, (⟨(o0.l ++ [p1]), o0.most⟩ : T_stack_Stack_int_)))
/- run_runner_end -/
noncomputable def F_run_runner_end (p1 : Int) (p2 : Int) : Option (Int × Int × Bool) :=
  some (p1, p2, true)
/- run_runner_fault -/
noncomputable def F_run_runner_fault (p1 : Int) : Option (Int × Int × Int × Int × Int × Int × Int × Bool × (List Int) × (List T_api_Alt)) :=
  (F_run_runner_end 11 0).bind fun y1 => some (y1.1, y1.2.1, 0, 0, 0, 0, p1, y1.2.2, ([] : List Int), ([] : List T_api_Alt))
/- run_runner_lay -/
noncomputable def F_run_runner_lay_J1 (x1 : Int) (x24 : Int) (x25 : Int) (x26 : Int) (x27 : Int) (x28 : Int) (x29 : Int) (x30 : Int) (x31 : Bool) (x32 : Int) (x33 : (List Int)) (x34 : (List Int)) (x35 : (List T_api_Alt)) : Option ((Int × Int × Int × Int × Int × Int × Int × Int × Bool × Int × (List Int) × (List Int) × (List T_api_Alt)) ⊕ (Int × Int × Int × Int × Int × Int × Int × Bool × T_stack_Stack_int_ × (List Int) × (List T_api_Alt))) :=
  some (.inl ((w64 (x1 + 1)), x24, x25, x26, x27, x28, x29, x30, x31, x32, x33, x34, x35))
noncomputable def F_run_runner_lay_L2 (o5 : (List Int)) (x1 : Int) (x2 : Int) (x3 : Int) (x4 : Int) (x5 : Int) (x6 : Int) (x7 : Int) (x8 : Int) (x9 : Bool) (x10 : Int) (x11 : (List Int)) (x12 : (List Int)) (x13 : (List T_api_Alt)) : Option ((Int × Int × Int × Int × Int × Int × Int × Int × Bool × Int × (List Int) × (List Int) × (List T_api_Alt)) ⊕ (Int × Int × Int × Int × Int × Int × Int × Bool × T_stack_Stack_int_ × (List Int) × (List T_api_Alt))) :=
  cond (decide (x1 < ((o5).length : Int))) ((lAt o5 x1).bind fun y37 => (F_stack_Stack_int_Push y37 (⟨x11, x10⟩ : T_stack_Stack_int_)).bind fun y39 => cond (!y39.1) ((F_run_runner_fault 2).bind fun y41 => F_run_runner_lay_J1 x1 y41.1 y41.2.1 y41.2.2.1 y41.2.2.2.1 y41.2.2.2.2.1 y41.2.2.2.2.2.1 y41.2.2.2.2.2.2.1 y41.2.2.2.2.2.2.2.1 y39.2.most y39.2.l y41.2.2.2.2.2.2.2.2.1 y41.2.2.2.2.2.2.2.2.2) (F_run_runner_lay_J1 x1 x2 x3 x4 x5 x6 x7 x8 x9 y39.2.most y39.2.l x12 x13)) ((some (x2, x3, x4, x5, x6, x7, x8, x9, (⟨x11, x10⟩ : T_stack_Stack_int_), x12, x13)).map Sum.inr)
noncomputable def F_run_runner_lay (o0_18 : Int) (o0_20 : Int) (o0_21 : Int) (o0_22 : Int) (o0_23 : Int) (o0_24 : Int) (o0_27 : Int) (o0_28 : Bool) (o1 : T_stack_Stack_int_) (o3 : (List Int)) (o4 : (List T_api_Alt)) (o5 : (List Int)) : Option (Int × Int × Int × Int × Int × Int × Int × Bool × T_stack_Stack_int_ × (List Int) × (List T_api_Alt)) :=
  Loop (fun s : (Int × Int × Int × Int × Int × Int × Int × Int × Bool × Int × (List Int) × (List Int) × (List T_api_Alt)) => F_run_runner_lay_L2 o5 s.1 s.2.1 s.2.2.1 s.2.2.2.1 s.2.2.2.2.1 s.2.2.2.2.2.1 s.2.2.2.2.2.2.1 s.2.2.2.2.2.2.2.1 s.2.2.2.2.2.2.2.2.1 s.2.2.2.2.2.2.2.2.2.1 s.2.2.2.2.2.2.2.2.2.2.1 s.2.2.2.2.2.2.2.2.2.2.2.1 s.2.2.2.2.2.2.2.2.2.2.2.2) (0, o0_18, o0_20, o0_21, o0_22, o0_23, o0_24, o0_27, o0_28, o1.most, o1.l, o3, o4)
/- run_runner_slot -/
noncomputable def F_run_runner_slot_J1 (p1 : Int) (o0_7 : (List Int)) (x6 : Bool) : Option (Int) :=
  cond x6 (some 0) ((lAt o0_7 p1).bind fun y9 => some y9)
noncomputable def F_run_runner_slot (p1 : Int) (o0_7 : (List Int)) : Option (Int) :=
  cond (decide (p1 < 0)) (F_run_runner_slot_J1 p1 o0_7 true) (F_run_runner_slot_J1 p1 o0_7 (decide (((o0_7).length : Int) ≤ p1)))
/- arith_Wide -/
noncomputable def F_arith_Wide_J2 (x13 : Bool) : Option (Int) :=
  cond x13 (some 2) (some 0)
noncomputable def F_arith_Wide_J1 (p0 : Int) (x10 : Bool) : Option (Int) :=
  cond x10 (some 1) (cond (decide (5 ≤ p0)) (F_arith_Wide_J2 (decide (p0 ≤ 17))) (F_arith_Wide_J2 false))
noncomputable def F_arith_Wide (p0 : Int) : Option (Int) :=
  cond (p0 == 3) (F_arith_Wide_J1 p0 true) (F_arith_Wide_J1 p0 (p0 == 4))
/- stack_Stack_int_Len -/
noncomputable def F_stack_Stack_int_Len (o0 : T_stack_Stack_int_) : Option (Int) :=
  some ((o0.l).length : Int)
/- slices_Clone_int_int -/
noncomputable def F_slices_Clone_int_int (p0 : (List Int)) : Option ((List Int)) :=
  grd (((([] : List Int)).length + (p0).length) * 8 ≤ 140737488355328) <| some (([] : List Int) ++ p0)
/- stack_Stack_int_Take -/
noncomputable def F_stack_Stack_int_Take_J2 (p1 : Int) (o0 : T_stack_Stack_int_) (y2 : Int) (x15 : (List Int)) : Option ((List Int) × Bool × T_stack_Stack_int_) :=
  grd ((0 : Int) ≤ (w64 (y2 - p1)) ∧ ((w64 (y2 - p1)) : Int) ≤ ((o0.l).length : Int) ∧ (w64 (y2 - p1)) = (w64 (y2 - p1))) <| some (x15, true, (⟨(lCut o0.l 0 (w64 (y2 - p1))), o0.most⟩ : T_stack_Stack_int_))
noncomputable def F_stack_Stack_int_Take_J1 (p1 : Int) (o0 : T_stack_Stack_int_) (y2 : Int) (x8 : Bool) : Option ((List Int) × Bool × T_stack_Stack_int_) :=
  cond x8 (some (([] : List Int), false, o0)) (cond (decide ((w64 (y2 - p1)) < ((o0.l).length : Int))) (grd ((0 : Int) ≤ (w64 (y2 - p1)) ∧ ((w64 (y2 - p1)) : Int) < ((o0.l).length : Int) ∧ ((o0.l).length : Int) ≤ ((o0.l).length : Int)) <| (F_slices_Clone_int_int (lCut o0.l (w64 (y2 - p1)) ((o0.l).length : Int))).bind fun y20 => F_stack_Stack_int_Take_J2 p1 o0 y2 y20) (grd ((0 : Int) ≤ (w64 (y2 - p1)) ∧ ((w64 (y2 - p1)) : Int) = ((o0.l).length : Int) ∧ ((o0.l).length : Int) ≤ ((o0.l).length : Int)) <| (F_slices_Clone_int_int ([] : List Int)).bind fun y22 => F_stack_Stack_int_Take_J2 p1 o0 y2 y22))
noncomputable def F_stack_Stack_int_Take (p1 : Int) (o0 : T_stack_Stack_int_) : Option ((List Int) × Bool × T_stack_Stack_int_) :=
  (F_stack_Stack_int_Len o0).bind fun y2 => cond (decide (p1 < 0)) (F_stack_Stack_int_Take_J1 p1 o0 y2 true) (F_stack_Stack_int_Take_J1 p1 o0 y2 (decide ((w64 (y2 - p1)) < 0)))
/- arith_bit -/
noncomputable def F_arith_bit (p0 : Bool) : Option (Int) :=
  cond p0 (some 1) (some 0)
/- arith_compared -/
noncomputable def F_arith_compared_J1 (x20 : Int) (x21 : Int) (x22 : Int) (x23 : Int) (x24 : Int) (x25 : Int) (x26 : Int) (x27 : Int) (x28 : Int) : Option (Int × Int × Int × Int × Int × Int × Int × Int × Int) :=
  some (x20, x21, x22, x23, x24, x25, x26, x27, x28)
noncomputable def F_arith_compared (p0 : Int) (p1 : Int) : Option (Int × Int × Int × Int × Int × Int × Int × Int × Int) :=
  (F_arith_bit (p0 == p1)).bind fun y29 => (F_arith_bit (p0 != p1)).bind fun y30 => (F_arith_bit (decide (p0 < p1))).bind fun y31 => (F_arith_bit (decide (p0 ≤ p1))).bind fun y32 => (F_arith_bit (decide (p1 < p0))).bind fun y33 => (F_arith_bit (decide (p1 ≤ p0))).bind fun y34 => cond (p0 != 0) ((F_arith_bit (p1 != 0)).bind fun y36 => cond (p0 != 0) ((F_arith_bit true).bind fun y38 => (F_arith_bit (p0 == 0)).bind fun y39 => F_arith_compared_J1 y29 y30 y31 y32 y33 y34 y36 y38 y39) ((F_arith_bit (p1 != 0)).bind fun y40 => (F_arith_bit (p0 == 0)).bind fun y41 => F_arith_compared_J1 y29 y30 y31 y32 y33 y34 y36 y40 y41)) ((F_arith_bit false).bind fun y42 => cond (p0 != 0) ((F_arith_bit true).bind fun y44 => (F_arith_bit (p0 == 0)).bind fun y45 => F_arith_compared_J1 y29 y30 y31 y32 y33 y34 y42 y44 y45) ((F_arith_bit (p1 != 0)).bind fun y46 => (F_arith_bit (p0 == 0)).bind fun y47 => F_arith_compared_J1 y29 y30 y31 y32 y33 y34 y42 y46 y47))
/- arith_Apply -/
noncomputable def F_arith_Apply_J1 (p0 : Int) (p1 : Int) (p2 : Int) (x24 : Bool) : Option (Int × Int) :=
  cond x24 (cond (p2 == 0) (some (0, 1)) (cond (p0 == 8) (grd (p2 ≠ 0) <| some ((w64 (Int.tdiv p1 p2)), 0)) (grd (p2 ≠ 0) <| some ((Int.tmod p1 p2), 0)))) ((F_arith_compared p1 p2).bind fun y37 => some ((cond (p0 == 10) y37.1 (cond (p0 == 11) y37.2.1 (cond (p0 == 12) y37.2.2.1 (cond (p0 == 13) y37.2.2.2.1 (cond (p0 == 14) y37.2.2.2.2.1 (cond (p0 == 15) y37.2.2.2.2.2.1 (cond (p0 == 16) y37.2.2.2.2.2.2.1 (cond (p0 == 17) y37.2.2.2.2.2.2.2.1 (cond (p0 == 4) y37.2.2.2.2.2.2.2.2 0))))))))), 0))
noncomputable def F_arith_Apply (p0 : Int) (p1 : Int) (p2 : Int) : Option (Int × Int) :=
  cond (p0 == 3) (some ((w64 (0 - p1)), 0)) (cond (p0 == 5) (some ((w64 (p1 + p2)), 0)) (cond (p0 == 6) (some ((w64 (p1 - p2)), 0)) (cond (p0 == 7) (some ((w64 (p1 * p2)), 0)) (cond (p0 == 8) (F_arith_Apply_J1 p0 p1 p2 (p0 == 8)) (F_arith_Apply_J1 p0 p1 p2 (p0 == 9))))))
/- run_runner_reckon -/
noncomputable def F_run_runner_reckon (p1 : Int) (o0_18 : Int) (o0_20 : Int) (o0_21 : Int) (o0_22 : Int) (o0_23 : Int) (o0_24 : Int) (o0_27 : Int) (o0_28 : Bool) (o1 : T_stack_Stack_int_) (o3 : (List Int)) (o4 : (List T_api_Alt)) : Option (Int × Int × Int × Int × Int × Int × Int × Bool × T_stack_Stack_int_ × (List Int) × (List T_api_Alt)) :=
  (F_arith_Wide p1).bind fun y3 => (F_stack_Stack_int_Take y3 o1).bind fun y4 => grd (((y4.1).length + ([0, 0]).length) * 8 ≤ 140737488355328) <| (lAt (y4.1 ++ [0, 0]) 0).bind fun y10 => (lAt (y4.1 ++ [0, 0]) 1).bind fun y11 => (F_arith_Apply p1 y10 y11).bind fun y12 => cond (y12.2 != 0) ((F_run_runner_fault y12.2).bind fun y18 => some (y18.1, y18.2.1, y18.2.2.1, y18.2.2.2.1, y18.2.2.2.2.1, y18.2.2.2.2.2.1, y18.2.2.2.2.2.2.1, y18.2.2.2.2.2.2.2.1, y4.2.2, y18.2.2.2.2.2.2.2.2.1, y18.2.2.2.2.2.2.2.2.2)) ((F_run_runner_lay o0_18 o0_20 o0_21 o0_22 o0_23 o0_24 o0_27 o0_28 y4.2.2 o3 o4 ([y12.1])).bind fun y19 => some (y19.1, y19.2.1, y19.2.2.1, y19.2.2.2.1, y19.2.2.2.2.1, y19.2.2.2.2.2.1, y19.2.2.2.2.2.2.1, y19.2.2.2.2.2.2.2.1, y19.2.2.2.2.2.2.2.2.1, y19.2.2.2.2.2.2.2.2.2.1, y19.2.2.2.2.2.2.2.2.2.2))
/- run_runner_jump -/
noncomputable def F_run_runner_jump (p1 : Int) (p2 : Bool) (o0_17 : Int) : Option (Int) :=
  cond p2 (some p1) (some o0_17)
/- stack_Stack_int_Pop -/
noncomputable def F_stack_Stack_int_Pop (o0 : T_stack_Stack_int_) : Option (Int × Bool × T_stack_Stack_int_) :=
  (F_stack_Stack_int_Take 1 o0).bind fun y2 => cond (!y2.2.1) (some (0, false, y2.2.2)) ((lAt y2.1 0).bind fun y6 => some (y6, true, y2.2.2))
/- run_runner_take -/
noncomputable def F_run_runner_take (o1 : T_stack_Stack_int_) : Option (Int × T_stack_Stack_int_) :=
  (F_stack_Stack_int_Pop o1).bind fun y2 => some (y2.1, y2.2.2)
/- run_runner_channel -/
noncomputable def F_run_runner_channel_J1 (p1 : T_api_Ins) (o0_18 : Int) (o0_20 : Int) (o0_21 : Int) (o0_22 : Int) (o0_23 : Int) (o0_24 : Int) (o0_27 : Int) (o0_28 : Bool) (o3 : (List Int)) (o4 : (List T_api_Alt)) (y8 : Int × T_stack_Stack_int_) (x16 : Bool) : Option (Int × Int × Int × Int × Int × Int × Int × Bool × T_stack_Stack_int_ × (List Int) × (List T_api_Alt)) :=
  cond x16 ((F_run_runner_fault 4).bind fun y19 => some (y19.1, y19.2.1, y19.2.2.1, y19.2.2.2.1, y19.2.2.2.2.1, y19.2.2.2.2.2.1, y19.2.2.2.2.2.2.1, y19.2.2.2.2.2.2.2.1, y8.2, y19.2.2.2.2.2.2.2.2.1, y19.2.2.2.2.2.2.2.2.2)) ((F_run_runner_lay o0_18 o0_20 o0_21 o0_22 o0_23 o0_24 o0_27 o0_28 y8.2 o3 o4 ([(w64 (p1.A + y8.1))])).bind fun y20 => some (y20.1, y20.2.1, y20.2.2.1, y20.2.2.2.1, y20.2.2.2.2.1, y20.2.2.2.2.2.1, y20.2.2.2.2.2.2.1, y20.2.2.2.2.2.2.2.1, y20.2.2.2.2.2.2.2.2.1, y20.2.2.2.2.2.2.2.2.2.1, y20.2.2.2.2.2.2.2.2.2.2))
noncomputable def F_run_runner_channel (p1 : T_api_Ins) (o0_18 : Int) (o0_20 : Int) (o0_21 : Int) (o0_22 : Int) (o0_23 : Int) (o0_24 : Int) (o0_27 : Int) (o0_28 : Bool) (o1 : T_stack_Stack_int_) (o3 : (List Int)) (o4 : (List T_api_Alt)) : Option (Int × Int × Int × Int × Int × Int × Int × Bool × T_stack_Stack_int_ × (List Int) × (List T_api_Alt)) :=
  cond (p1.B == 0) ((F_run_runner_lay o0_18 o0_20 o0_21 o0_22 o0_23 o0_24 o0_27 o0_28 o1 o3 o4 ([p1.A])).bind fun y6 => some (y6.1, y6.2.1, y6.2.2.1, y6.2.2.2.1, y6.2.2.2.2.1, y6.2.2.2.2.2.1, y6.2.2.2.2.2.2.1, y6.2.2.2.2.2.2.2.1, y6.2.2.2.2.2.2.2.2.1, y6.2.2.2.2.2.2.2.2.2.1, y6.2.2.2.2.2.2.2.2.2.2)) ((F_run_runner_take o1).bind fun y8 => cond (decide (y8.1 < 0)) (F_run_runner_channel_J1 p1 o0_18 o0_20 o0_21 o0_22 o0_23 o0_24 o0_27 o0_28 o3 o4 y8 true) (F_run_runner_channel_J1 p1 o0_18 o0_20 o0_21 o0_22 o0_23 o0_24 o0_27 o0_28 o3 o4 y8 (decide (p1.B ≤ y8.1))))
/- proc_Chans -/
noncomputable def F_proc_Chans_L1 (p0 : T_api_Code) (x13 : Int) (x14 : Int) : Option ((Int × Int) ⊕ (Int)) :=
  cond (decide (x14 < ((p0.Chans).length : Int))) ((lAt p0.Chans x14).bind fun y22 => some (.inl ((w64 (x13 + (if 1 > y22.Size then 1 else y22.Size))), (w64 (x14 + 1))))) ((some x13).map Sum.inr)
noncomputable def F_proc_Chans (p0 : T_api_Code) : Option (Int) :=
  Loop (fun s : (Int × Int) => F_proc_Chans_L1 p0 s.1 s.2) (0, 0)
/- run_runner_none -/
noncomputable def F_run_runner_none_J1 (o0_18 : Int) (o0_20 : Int) (o0_21 : Int) (o0_22 : Int) (o0_23 : Int) (o0_24 : Int) (o0_27 : Int) (o0_28 : Bool) (o3 : (List Int)) (o4 : (List T_api_Alt)) (x9 : Bool) : Option (Bool × Int × Int × Int × Int × Int × Int × Int × Bool × (List Int) × (List T_api_Alt)) :=
  cond x9 (some (false, o0_18, o0_20, o0_21, o0_22, o0_23, o0_24, o0_27, o0_28, o3, o4)) ((F_run_runner_fault 4).bind fun y12 => some (true, y12.1, y12.2.1, y12.2.2.1, y12.2.2.2.1, y12.2.2.2.2.1, y12.2.2.2.2.2.1, y12.2.2.2.2.2.2.1, y12.2.2.2.2.2.2.2.1, y12.2.2.2.2.2.2.2.2.1, y12.2.2.2.2.2.2.2.2.2))
noncomputable def F_run_runner_none (p1 : Int) (o0_0 : (List T_api_Ins)) (o0_1 : (List T_api_Def)) (o0_2 : (List T_api_Chan)) (o0_3 : Int) (o0_4 : Int) (o0_18 : Int) (o0_20 : Int) (o0_21 : Int) (o0_22 : Int) (o0_23 : Int) (o0_24 : Int) (o0_27 : Int) (o0_28 : Bool) (o3 : (List Int)) (o4 : (List T_api_Alt)) : Option (Bool × Int × Int × Int × Int × Int × Int × Int × Bool × (List Int) × (List T_api_Alt)) :=
  cond (decide (0 ≤ p1)) ((F_proc_Chans (⟨o0_0, o0_1, o0_2, o0_3, o0_4⟩ : T_api_Code)).bind fun y14 => F_run_runner_none_J1 o0_18 o0_20 o0_21 o0_22 o0_23 o0_24 o0_27 o0_28 o3 o4 (decide (p1 < y14))) (F_run_runner_none_J1 o0_18 o0_20 o0_21 o0_22 o0_23 o0_24 o0_27 o0_28 o3 o4 false)
/- code_Settle -/
noncomputable def F_code_Settle_J1 (p0 : T_api_Code) (x45 : Int) (x46 : Int) (x79 : Bool) : Option ((Int × Int) ⊕ (Int)) :=
  cond x79 ((some x45).map Sum.inr) ((lAt p0.Ins x45).bind fun y83 => some (.inl (y83.A, (w64 (x46 + 1)))))
noncomputable def F_code_Settle_L2 (p0 : T_api_Code) (p1 : Int) (x45 : Int) (x46 : Int) : Option ((Int × Int) ⊕ (Int)) :=
  cond (decide (x46 < (w64 (((p0.Ins).length : Int) + 1)))) (cond (decide (x45 < 0)) (F_code_Settle_J1 p0 x45 x46 true) (cond (decide (((p0.Ins).length : Int) ≤ x45)) (F_code_Settle_J1 p0 x45 x46 true) ((lAt p0.Ins x45).bind fun y86 => F_code_Settle_J1 p0 x45 x46 (y86.Op != 6)))) ((some p1).map Sum.inr)
noncomputable def F_code_Settle (p0 : T_api_Code) (p1 : Int) : Option (Int) :=
  Loop (fun s : (Int × Int) => F_code_Settle_L2 p0 p1 s.1 s.2) (p1, 0)
/- run_runner_alt -/
noncomputable def F_run_runner_alt_J1 (p1 : T_api_Alt) (p2 : Int) (o0_0 : (List T_api_Ins)) (o0_1 : (List T_api_Def)) (o0_2 : (List T_api_Chan)) (o0_3 : Int) (o0_4 : Int) (x25 : Bool) (x26 : Int) (x27 : Int) (x28 : Int) (x29 : Int) (x30 : Int) (x31 : Int) (x32 : Int) (x33 : Bool) (x34 : (List Int)) (x35 : (List T_api_Alt)) : Option (Int × Int × Int × Int × Int × Int × Int × Bool × (List Int) × (List T_api_Alt)) :=
  cond x25 (some (x26, x27, x28, x29, x30, x31, x32, x33, x34, x35)) ((F_code_Settle (⟨o0_0, o0_1, o0_2, o0_3, o0_4⟩ : T_api_Code) p2).bind fun y38 => grd (((x35).length + ([(⟨p1.Kind, p1.Chan, p1.Val, p1.Slot, y38⟩ : T_api_Alt)]).length) * 40 ≤ 140737488355328) <| some (x26, x27, x28, x29, x30, x31, x32, x33, x34, (x35 ++ [(⟨p1.Kind, p1.Chan, p1.Val, p1.Slot, y38⟩ : T_api_Alt)])))
noncomputable def F_run_runner_alt (p1 : T_api_Alt) (p2 : Int) (o0_0 : (List T_api_Ins)) (o0_1 : (List T_api_Def)) (o0_2 : (List T_api_Chan)) (o0_3 : Int) (o0_4 : Int) (o0_18 : Int) (o0_20 : Int) (o0_21 : Int) (o0_22 : Int) (o0_23 : Int) (o0_24 : Int) (o0_27 : Int) (o0_28 : Bool) (o3 : (List Int)) (o4 : (List T_api_Alt)) : Option (Int × Int × Int × Int × Int × Int × Int × Bool × (List Int) × (List T_api_Alt)) :=
  cond (p1.Kind == 1) ((F_run_runner_none p1.Chan o0_0 o0_1 o0_2 o0_3 o0_4 o0_18 o0_20 o0_21 o0_22 o0_23 o0_24 o0_27 o0_28 o3 o4).bind fun y41 => F_run_runner_alt_J1 p1 p2 o0_0 o0_1 o0_2 o0_3 o0_4 y41.1 y41.2.1 y41.2.2.1 y41.2.2.2.1 y41.2.2.2.2.1 y41.2.2.2.2.2.1 y41.2.2.2.2.2.2.1 y41.2.2.2.2.2.2.2.1 y41.2.2.2.2.2.2.2.2.1 y41.2.2.2.2.2.2.2.2.2.1 y41.2.2.2.2.2.2.2.2.2.2) (cond (p1.Kind == 2) ((F_run_runner_none p1.Chan o0_0 o0_1 o0_2 o0_3 o0_4 o0_18 o0_20 o0_21 o0_22 o0_23 o0_24 o0_27 o0_28 o3 o4).bind fun y43 => F_run_runner_alt_J1 p1 p2 o0_0 o0_1 o0_2 o0_3 o0_4 y43.1 y43.2.1 y43.2.2.1 y43.2.2.2.1 y43.2.2.2.2.1 y43.2.2.2.2.2.1 y43.2.2.2.2.2.2.1 y43.2.2.2.2.2.2.2.1 y43.2.2.2.2.2.2.2.2.1 y43.2.2.2.2.2.2.2.2.2.1 y43.2.2.2.2.2.2.2.2.2.2) (F_run_runner_alt_J1 p1 p2 o0_0 o0_1 o0_2 o0_3 o0_4 false o0_18 o0_20 o0_21 o0_22 o0_23 o0_24 o0_27 o0_28 o3 o4))
/- run_runner_reckons -/
noncomputable def F_run_runner_reckons_J1 (x32 : Int) (x33 : Int) (x34 : Int) (x35 : Int) (x36 : Int) (x37 : Int) (x38 : Int) (x39 : Int) (x40 : Bool) (x41 : Int) (x42 : (List Int)) (x43 : (List Int)) (x44 : (List T_api_Alt)) : Option (Bool × Int × Int × Int × Int × Int × Int × Int × Int × Bool × T_stack_Stack_int_ × (List Int) × (List T_api_Alt)) :=
  some (true, x32, x33, x34, x35, x36, x37, x38, x39, x40, (⟨x42, x41⟩ : T_stack_Stack_int_), x43, x44)
noncomputable def F_run_runner_reckons (p1 : T_api_Ins) (o0_0 : (List T_api_Ins)) (o0_1 : (List T_api_Def)) (o0_2 : (List T_api_Chan)) (o0_3 : Int) (o0_4 : Int) (o0_7 : (List Int)) (o0_17 : Int) (o0_18 : Int) (o0_20 : Int) (o0_21 : Int) (o0_22 : Int) (o0_23 : Int) (o0_24 : Int) (o0_27 : Int) (o0_28 : Bool) (o1 : T_stack_Stack_int_) (o3 : (List Int)) (o4 : (List T_api_Alt)) : Option (Bool × Int × Int × Int × Int × Int × Int × Int × Int × Bool × T_stack_Stack_int_ × (List Int) × (List T_api_Alt)) :=
  cond (p1.Op == 2) ((F_run_runner_lay o0_18 o0_20 o0_21 o0_22 o0_23 o0_24 o0_27 o0_28 o1 o3 o4 ([p1.A])).bind fun y46 => F_run_runner_reckons_J1 o0_17 y46.1 y46.2.1 y46.2.2.1 y46.2.2.2.1 y46.2.2.2.2.1 y46.2.2.2.2.2.1 y46.2.2.2.2.2.2.1 y46.2.2.2.2.2.2.2.1 y46.2.2.2.2.2.2.2.2.1.most y46.2.2.2.2.2.2.2.2.1.l y46.2.2.2.2.2.2.2.2.2.1 y46.2.2.2.2.2.2.2.2.2.2) (cond (p1.Op == 3) ((F_run_runner_slot p1.A o0_7).bind fun y48 => (F_run_runner_lay o0_18 o0_20 o0_21 o0_22 o0_23 o0_24 o0_27 o0_28 o1 o3 o4 ([y48])).bind fun y49 => F_run_runner_reckons_J1 o0_17 y49.1 y49.2.1 y49.2.2.1 y49.2.2.2.1 y49.2.2.2.2.1 y49.2.2.2.2.2.1 y49.2.2.2.2.2.2.1 y49.2.2.2.2.2.2.2.1 y49.2.2.2.2.2.2.2.2.1.most y49.2.2.2.2.2.2.2.2.1.l y49.2.2.2.2.2.2.2.2.2.1 y49.2.2.2.2.2.2.2.2.2.2) (cond (p1.Op == 5) ((F_run_runner_reckon p1.A o0_18 o0_20 o0_21 o0_22 o0_23 o0_24 o0_27 o0_28 o1 o3 o4).bind fun y51 => F_run_runner_reckons_J1 o0_17 y51.1 y51.2.1 y51.2.2.1 y51.2.2.2.1 y51.2.2.2.2.1 y51.2.2.2.2.2.1 y51.2.2.2.2.2.2.1 y51.2.2.2.2.2.2.2.1 y51.2.2.2.2.2.2.2.2.1.most y51.2.2.2.2.2.2.2.2.1.l y51.2.2.2.2.2.2.2.2.2.1 y51.2.2.2.2.2.2.2.2.2.2) (cond (p1.Op == 6) ((F_run_runner_jump p1.A true o0_17).bind fun y53 => F_run_runner_reckons_J1 y53 o0_18 o0_20 o0_21 o0_22 o0_23 o0_24 o0_27 o0_28 o1.most o1.l o3 o4) (cond (p1.Op == 7) ((F_run_runner_take o1).bind fun y55 => (F_run_runner_jump p1.A (y55.1 == 0) o0_17).bind fun y56 => F_run_runner_reckons_J1 y56 o0_18 o0_20 o0_21 o0_22 o0_23 o0_24 o0_27 o0_28 y55.2.most y55.2.l o3 o4) (cond (p1.Op == 8) ((F_run_runner_take o1).bind fun y58 => (F_run_runner_jump p1.A (y58.1 != 0) o0_17).bind fun y59 => F_run_runner_reckons_J1 y59 o0_18 o0_20 o0_21 o0_22 o0_23 o0_24 o0_27 o0_28 y58.2.most y58.2.l o3 o4) (cond (p1.Op == 9) ((F_run_runner_channel p1 o0_18 o0_20 o0_21 o0_22 o0_23 o0_24 o0_27 o0_28 o1 o3 o4).bind fun y61 => F_run_runner_reckons_J1 o0_17 y61.1 y61.2.1 y61.2.2.1 y61.2.2.2.1 y61.2.2.2.2.1 y61.2.2.2.2.2.1 y61.2.2.2.2.2.2.1 y61.2.2.2.2.2.2.2.1 y61.2.2.2.2.2.2.2.2.1.most y61.2.2.2.2.2.2.2.2.1.l y61.2.2.2.2.2.2.2.2.2.1 y61.2.2.2.2.2.2.2.2.2.2) (cond (p1.Op == 25) (F_run_runner_reckons_J1 o0_17 o0_18 o0_20 o0_21 o0_22 o0_23 o0_24 o0_27 o0_28 o1.most o1.l o3 o4) (cond (p1.Op == 19) ((F_run_runner_take o1).bind fun y64 => (F_run_runner_alt (⟨1, y64.1, 0, p1.A, 0⟩ : T_api_Alt) p1.B o0_0 o0_1 o0_2 o0_3 o0_4 o0_18 o0_20 o0_21 o0_22 o0_23 o0_24 o0_27 o0_28 o3 o4).bind fun y65 => F_run_runner_reckons_J1 o0_17 y65.1 y65.2.1 y65.2.2.1 y65.2.2.2.1 y65.2.2.2.2.1 y65.2.2.2.2.2.1 y65.2.2.2.2.2.2.1 y65.2.2.2.2.2.2.2.1 y64.2.most y64.2.l y65.2.2.2.2.2.2.2.2.1 y65.2.2.2.2.2.2.2.2.2) (cond (p1.Op == 20) ((F_run_runner_take o1).bind fun y68 => (F_run_runner_take y68.2).bind fun y69 => (F_run_runner_alt (⟨2, y69.1, y68.1, 0, 0⟩ : T_api_Alt) p1.A o0_0 o0_1 o0_2 o0_3 o0_4 o0_18 o0_20 o0_21 o0_22 o0_23 o0_24 o0_27 o0_28 o3 o4).bind fun y70 => F_run_runner_reckons_J1 o0_17 y70.1 y70.2.1 y70.2.2.1 y70.2.2.2.1 y70.2.2.2.2.1 y70.2.2.2.2.2.1 y70.2.2.2.2.2.2.1 y70.2.2.2.2.2.2.2.1 y69.2.most y69.2.l y70.2.2.2.2.2.2.2.2.1 y70.2.2.2.2.2.2.2.2.2) (cond (p1.Op == 21) ((F_run_runner_take o1).bind fun y72 => (F_run_runner_alt (⟨3, 0, y72.1, 0, 0⟩ : T_api_Alt) p1.A o0_0 o0_1 o0_2 o0_3 o0_4 o0_18 o0_20 o0_21 o0_22 o0_23 o0_24 o0_27 o0_28 o3 o4).bind fun y73 => F_run_runner_reckons_J1 o0_17 y73.1 y73.2.1 y73.2.2.1 y73.2.2.2.1 y73.2.2.2.2.1 y73.2.2.2.2.2.1 y73.2.2.2.2.2.2.1 y73.2.2.2.2.2.2.2.1 y72.2.most y72.2.l y73.2.2.2.2.2.2.2.2.1 y73.2.2.2.2.2.2.2.2.2) (cond (p1.Op == 22) ((F_run_runner_alt (⟨4, 0, 0, 0, 0⟩ : T_api_Alt) p1.A o0_0 o0_1 o0_2 o0_3 o0_4 o0_18 o0_20 o0_21 o0_22 o0_23 o0_24 o0_27 o0_28 o3 o4).bind fun y75 => F_run_runner_reckons_J1 o0_17 y75.1 y75.2.1 y75.2.2.1 y75.2.2.2.1 y75.2.2.2.2.1 y75.2.2.2.2.2.1 y75.2.2.2.2.2.2.1 y75.2.2.2.2.2.2.2.1 o1.most o1.l y75.2.2.2.2.2.2.2.2.1 y75.2.2.2.2.2.2.2.2.2) (some (false, o0_17, o0_18, o0_20, o0_21, o0_22, o0_23, o0_24, o0_27, o0_28, o1, o3, o4)))))))))))))
/- run_runner_ends -/
noncomputable def F_run_runner_ends_J3 (p1 : T_api_Ins) (o0_21 : Int) (o0_24 : Int) (o0_27 : Int) (o3 : (List Int)) (y2 : Int) (y11 : Int × T_stack_Stack_int_) (x13 : Int) : Option ((Int × Int × Int × Int × Int × Int × Int × Bool × T_stack_Stack_int_ × (List Int) × (List T_api_Alt)) ⊕ (Int × Int × Int × Bool × T_stack_Stack_int_ × (List T_api_Alt) × (List Int)) ⊕ (Int × Int × Bool × (List T_api_Alt))) :=
  (F_run_runner_end x13 y2).bind fun y14 => some (.inl (y14.1, y14.2.1, o0_21, y11.1, p1.A, o0_24, o0_27, y14.2.2, y11.2, o3, ([] : List T_api_Alt)))
noncomputable def F_run_runner_ends_J5 (o0_21 : Int) (o0_23 : Int) (o0_24 : Int) (o0_27 : Int) (o3 : (List Int)) (y2 : Int) (y36 : Int × T_stack_Stack_int_) (x38 : Int) : Option ((Int × Int × Int × Int × Int × Int × Int × Bool × T_stack_Stack_int_ × (List Int) × (List T_api_Alt)) ⊕ (Int × Int × Int × Bool × T_stack_Stack_int_ × (List T_api_Alt) × (List Int)) ⊕ (Int × Int × Bool × (List T_api_Alt))) :=
  (F_run_runner_end x38 y2).bind fun y39 => some (.inl (y39.1, y39.2.1, o0_21, y36.1, o0_23, o0_24, o0_27, y39.2.2, y36.2, o3, ([] : List T_api_Alt)))
noncomputable def F_run_runner_ends_J4 (p1 : T_api_Ins) (o0_18 : Int) (o0_20 : Int) (o0_21 : Int) (o0_22 : Int) (o0_23 : Int) (o0_24 : Int) (o0_27 : Int) (o0_28 : Bool) (o1 : T_stack_Stack_int_) (o3 : (List Int)) (o4 : (List T_api_Alt)) (y2 : Int) (x33 : Bool) : Option ((Int × Int × Int × Int × Int × Int × Int × Bool × T_stack_Stack_int_ × (List Int) × (List T_api_Alt)) ⊕ (Int × Int × Int × Bool × T_stack_Stack_int_ × (List T_api_Alt) × (List Int)) ⊕ (Int × Int × Bool × (List T_api_Alt))) :=
  cond x33 ((F_run_runner_take o1).bind fun y36 => cond (p1.Op == 15) (F_run_runner_ends_J5 o0_21 o0_23 o0_24 o0_27 o3 y2 y36 8) (F_run_runner_ends_J5 o0_21 o0_23 o0_24 o0_27 o3 y2 y36 6)) (cond (p1.Op == 14) ((F_stack_Stack_int_Take p1.B o1).bind fun y43 => (F_run_runner_end 7 y2).bind fun y44 => some (.inr (.inl (y44.1, y44.2.1, p1.A, y44.2.2, y43.2.2, ([] : List T_api_Alt), y43.1)))) (cond (p1.Op == 16) ((F_run_runner_take o1).bind fun y52 => cond (y52.1 == 0) ((F_run_runner_fault 6).bind fun y55 => some (.inl (y55.1, y55.2.1, y55.2.2.1, y55.2.2.2.1, y55.2.2.2.2.1, y55.2.2.2.2.2.1, y55.2.2.2.2.2.2.1, y55.2.2.2.2.2.2.2.1, y52.2, y55.2.2.2.2.2.2.2.2.1, y55.2.2.2.2.2.2.2.2.2))) ((F_run_runner_end 1 y2).bind fun y56 => some (.inl (y56.1, y56.2.1, o0_21, o0_22, o0_23, o0_24, o0_27, y56.2.2, y52.2, o3, ([] : List T_api_Alt))))) (cond (p1.Op == 17) ((F_run_runner_end 1 y2).bind fun y58 => some (.inl (y58.1, y58.2.1, o0_21, o0_22, o0_23, o0_24, o0_27, y58.2.2, o1, o3, ([] : List T_api_Alt)))) (cond (p1.Op == 18) ((F_run_runner_end 9 0).bind fun y60 => some (.inl (y60.1, y60.2.1, o0_21, o0_22, o0_23, o0_24, o0_27, y60.2.2, o1, o3, ([] : List T_api_Alt)))) (cond (p1.Op == 23) ((F_run_runner_end 10 0).bind fun y62 => some (.inr (.inr (y62.1, y62.2.1, y62.2.2, o4)))) (some (.inr (.inr (o0_18, o0_20, o0_28, ([] : List T_api_Alt))))))))))
noncomputable def F_run_runner_ends_J2 (p1 : T_api_Ins) (o0_0 : (List T_api_Ins)) (o0_1 : (List T_api_Def)) (o0_2 : (List T_api_Chan)) (o0_3 : Int) (o0_4 : Int) (o0_18 : Int) (o0_20 : Int) (o0_21 : Int) (o0_22 : Int) (o0_23 : Int) (o0_24 : Int) (o0_27 : Int) (o0_28 : Bool) (o1 : T_stack_Stack_int_) (o3 : (List Int)) (o4 : (List T_api_Alt)) (y2 : Int) (x8 : Bool) : Option ((Int × Int × Int × Int × Int × Int × Int × Bool × T_stack_Stack_int_ × (List Int) × (List T_api_Alt)) ⊕ (Int × Int × Int × Bool × T_stack_Stack_int_ × (List T_api_Alt) × (List Int)) ⊕ (Int × Int × Bool × (List T_api_Alt))) :=
  cond x8 ((F_run_runner_take o1).bind fun y11 => cond (p1.Op == 12) (F_run_runner_ends_J3 p1 o0_21 o0_24 o0_27 o3 y2 y11 3) (F_run_runner_ends_J3 p1 o0_21 o0_24 o0_27 o3 y2 y11 2)) (cond (p1.Op == 10) ((F_run_runner_take o1).bind fun y18 => (F_run_runner_take y18.2).bind fun y20 => (F_run_runner_none y20.1 o0_0 o0_1 o0_2 o0_3 o0_4 o0_18 o0_20 y20.1 y18.1 o0_23 o0_24 o0_27 o0_28 o3 ([] : List T_api_Alt)).bind fun y22 => cond (!y22.1) ((F_run_runner_end 4 y2).bind fun y24 => some (.inl (y24.1, y24.2.1, y22.2.2.2.1, y22.2.2.2.2.1, y22.2.2.2.2.2.1, y22.2.2.2.2.2.2.1, y22.2.2.2.2.2.2.2.1, y24.2.2, y20.2, y22.2.2.2.2.2.2.2.2.2.1, y22.2.2.2.2.2.2.2.2.2.2))) (some (.inl (y22.2.1, y22.2.2.1, y22.2.2.2.1, y22.2.2.2.2.1, y22.2.2.2.2.2.1, y22.2.2.2.2.2.2.1, y22.2.2.2.2.2.2.2.1, y22.2.2.2.2.2.2.2.2.1, y20.2, y22.2.2.2.2.2.2.2.2.2.1, y22.2.2.2.2.2.2.2.2.2.2)))) (cond (p1.Op == 11) ((F_run_runner_take o1).bind fun y27 => (F_run_runner_none y27.1 o0_0 o0_1 o0_2 o0_3 o0_4 o0_18 o0_20 y27.1 o0_22 p1.A o0_24 o0_27 o0_28 o3 ([] : List T_api_Alt)).bind fun y29 => cond (!y29.1) ((F_run_runner_end 5 y2).bind fun y31 => some (.inl (y31.1, y31.2.1, y29.2.2.2.1, y29.2.2.2.2.1, y29.2.2.2.2.2.1, y29.2.2.2.2.2.2.1, y29.2.2.2.2.2.2.2.1, y31.2.2, y27.2, y29.2.2.2.2.2.2.2.2.2.1, y29.2.2.2.2.2.2.2.2.2.2))) (some (.inl (y29.2.1, y29.2.2.1, y29.2.2.2.1, y29.2.2.2.2.1, y29.2.2.2.2.2.1, y29.2.2.2.2.2.2.1, y29.2.2.2.2.2.2.2.1, y29.2.2.2.2.2.2.2.2.1, y27.2, y29.2.2.2.2.2.2.2.2.2.1, y29.2.2.2.2.2.2.2.2.2.2)))) (cond (p1.Op == 13) (F_run_runner_ends_J4 p1 o0_18 o0_20 o0_21 o0_22 o0_23 o0_24 o0_27 o0_28 o1 o3 o4 y2 (p1.Op == 13)) (F_run_runner_ends_J4 p1 o0_18 o0_20 o0_21 o0_22 o0_23 o0_24 o0_27 o0_28 o1 o3 o4 y2 (p1.Op == 15)))))
noncomputable def F_run_runner_ends_J1 (p1 : T_api_Ins) (p2 : Int) (o0_0 : (List T_api_Ins)) (o0_1 : (List T_api_Def)) (o0_2 : (List T_api_Chan)) (o0_3 : Int) (o0_4 : Int) (o0_18 : Int) (o0_20 : Int) (o0_21 : Int) (o0_22 : Int) (o0_23 : Int) (o0_24 : Int) (o0_27 : Int) (o0_28 : Bool) (o1 : T_stack_Stack_int_) (o3 : (List Int)) (o4 : (List T_api_Alt)) (y2 : Int) (x4 : Bool) : Option ((Int × Int × Int × Int × Int × Int × Int × Bool × T_stack_Stack_int_ × (List Int) × (List T_api_Alt)) ⊕ (Int × Int × Int × Bool × T_stack_Stack_int_ × (List T_api_Alt) × (List Int)) ⊕ (Int × Int × Bool × (List T_api_Alt))) :=
  cond x4 ((F_run_runner_end 1 p2).bind fun y6 => some (.inl (y6.1, y6.2.1, o0_21, o0_22, o0_23, o0_24, o0_27, y6.2.2, o1, o3, ([] : List T_api_Alt)))) (cond (p1.Op == 4) (F_run_runner_ends_J2 p1 o0_0 o0_1 o0_2 o0_3 o0_4 o0_18 o0_20 o0_21 o0_22 o0_23 o0_24 o0_27 o0_28 o1 o3 o4 y2 (p1.Op == 4)) (F_run_runner_ends_J2 p1 o0_0 o0_1 o0_2 o0_3 o0_4 o0_18 o0_20 o0_21 o0_22 o0_23 o0_24 o0_27 o0_28 o1 o3 o4 y2 (p1.Op == 12)))
noncomputable def F_run_runner_ends (p1 : T_api_Ins) (p2 : Int) (o0_0 : (List T_api_Ins)) (o0_1 : (List T_api_Def)) (o0_2 : (List T_api_Chan)) (o0_3 : Int) (o0_4 : Int) (o0_18 : Int) (o0_20 : Int) (o0_21 : Int) (o0_22 : Int) (o0_23 : Int) (o0_24 : Int) (o0_27 : Int) (o0_28 : Bool) (o1 : T_stack_Stack_int_) (o3 : (List Int)) (o4 : (List T_api_Alt)) : Option ((Int × Int × Int × Int × Int × Int × Int × Bool × T_stack_Stack_int_ × (List Int) × (List T_api_Alt)) ⊕ (Int × Int × Int × Bool × T_stack_Stack_int_ × (List T_api_Alt) × (List Int)) ⊕ (Int × Int × Bool × (List T_api_Alt))) :=
  (F_code_Settle (⟨o0_0, o0_1, o0_2, o0_3, o0_4⟩ : T_api_Code) (w64 (p2 + 1))).bind fun y2 => cond (p1.Op == 1) (F_run_runner_ends_J1 p1 p2 o0_0 o0_1 o0_2 o0_3 o0_4 o0_18 o0_20 o0_21 o0_22 o0_23 o0_24 o0_27 o0_28 o1 o3 o4 y2 (p1.Op == 1)) (F_run_runner_ends_J1 p1 p2 o0_0 o0_1 o0_2 o0_3 o0_4 o0_18 o0_20 o0_21 o0_22 o0_23 o0_24 o0_27 o0_28 o1 o3 o4 y2 (p1.Op == 24))
/- run_Step -/
noncomputable def F_run_Step_J2 (y14 : T_api_Ins) (x95 : Int) (x96 : Int) (x97 : Int) (x98 : Int) (x99 : Int) (x100 : Int) (x101 : Int) (x105 : (List Int)) (x106 : (List T_api_Alt)) : Option (T_api_Effect) :=
  some (⟨x95, y14.A, x96, x97, x98, x99, x100, x105, x106, x101⟩ : T_api_Effect)
noncomputable def F_run_Step_J3 (x107 : Int) (x147 : Int) (x148 : Int) (x149 : Int) (x150 : Int) (x151 : Int) (x152 : Int) (x153 : Int) (x154 : Int) (x155 : Bool) (x156 : Int) (x157 : (List Int)) (x158 : (List Int)) (x159 : (List T_api_Alt)) : Option ((Int × Int × Int × Int × Int × Int × Int × Int × Int × Bool × Int × (List Int) × (List Int) × (List T_api_Alt)) ⊕ (T_api_Effect)) :=
  some (.inl ((w64 (x107 + 1)), x147, x148, x149, x150, x151, x152, x153, x154, x155, x156, x157, x158, x159))
noncomputable def F_run_Step_J4 (p0 : T_api_Code) (p1 : T_api_Proc) (y14 : T_api_Ins) (x107 : Int) (x108 : Int) (x109 : Int) (x110 : Int) (x111 : Int) (x112 : Int) (x113 : Int) (x114 : Int) (x115 : Int) (x116 : Bool) (x117 : Int) (x118 : (List Int)) (x119 : (List Int)) (x120 : (List T_api_Alt)) (x168 : Bool) : Option ((Int × Int × Int × Int × Int × Int × Int × Int × Int × Bool × Int × (List Int) × (List Int) × (List T_api_Alt)) ⊕ (T_api_Effect)) :=
  cond x168 ((F_run_Step_J2 y14 x109 x110 x111 x112 x113 x114 x115 x119 x120).map Sum.inr) ((lAt p0.Ins x108).bind fun y174 => (F_run_runner_reckons y174 p0.Ins p0.Defs p0.Chans p0.Main p0.Stmts p1.Vars (w64 (x108 + 1)) x109 x110 x111 x112 x113 x114 x115 x116 (⟨x118, x117⟩ : T_stack_Stack_int_) x119 x120).bind fun y175 => cond (!y175.1) ((lAt p0.Ins x108).bind fun y177 => (F_run_runner_ends y177 x108 p0.Ins p0.Defs p0.Chans p0.Main p0.Stmts y175.2.2.1 y175.2.2.2.1 y175.2.2.2.2.1 y175.2.2.2.2.2.1 y175.2.2.2.2.2.2.1 y175.2.2.2.2.2.2.2.1 y175.2.2.2.2.2.2.2.2.1 y175.2.2.2.2.2.2.2.2.2.1 y175.2.2.2.2.2.2.2.2.2.2.1 y175.2.2.2.2.2.2.2.2.2.2.2.1 y175.2.2.2.2.2.2.2.2.2.2.2.2).bind fun y178 => (Sum.elim (fun y179 => F_run_Step_J3 x107 y175.2.1 y179.1 y179.2.1 y179.2.2.1 y179.2.2.2.1 y179.2.2.2.2.1 y179.2.2.2.2.2.1 y179.2.2.2.2.2.2.1 y179.2.2.2.2.2.2.2.1 y179.2.2.2.2.2.2.2.2.1.most y179.2.2.2.2.2.2.2.2.1.l y179.2.2.2.2.2.2.2.2.2.1 y179.2.2.2.2.2.2.2.2.2.2) (Sum.elim (fun y180 => F_run_Step_J3 x107 y175.2.1 y180.1 y180.2.1 y175.2.2.2.2.1 y175.2.2.2.2.2.1 y175.2.2.2.2.2.2.1 y180.2.2.1 y175.2.2.2.2.2.2.2.2.1 y180.2.2.2.1 y180.2.2.2.2.1.most y180.2.2.2.2.1.l y180.2.2.2.2.2.2 y180.2.2.2.2.2.1) (fun y181 => F_run_Step_J3 x107 y175.2.1 y181.1 y181.2.1 y175.2.2.2.2.1 y175.2.2.2.2.2.1 y175.2.2.2.2.2.2.1 y175.2.2.2.2.2.2.2.1 y175.2.2.2.2.2.2.2.2.1 y181.2.2.1 y175.2.2.2.2.2.2.2.2.2.2.1.most y175.2.2.2.2.2.2.2.2.2.2.1.l y175.2.2.2.2.2.2.2.2.2.2.2.1 y181.2.2.2))) y178) (F_run_Step_J3 x107 y175.2.1 y175.2.2.1 y175.2.2.2.1 y175.2.2.2.2.1 y175.2.2.2.2.2.1 y175.2.2.2.2.2.2.1 y175.2.2.2.2.2.2.2.1 y175.2.2.2.2.2.2.2.2.1 y175.2.2.2.2.2.2.2.2.2.1 y175.2.2.2.2.2.2.2.2.2.2.1.most y175.2.2.2.2.2.2.2.2.2.2.1.l y175.2.2.2.2.2.2.2.2.2.2.2.1 y175.2.2.2.2.2.2.2.2.2.2.2.2))
noncomputable def F_run_Step_L5 (p0 : T_api_Code) (p1 : T_api_Proc) (y14 : T_api_Ins) (x107 : Int) (x108 : Int) (x109 : Int) (x110 : Int) (x111 : Int) (x112 : Int) (x113 : Int) (x114 : Int) (x115 : Int) (x116 : Bool) (x117 : Int) (x118 : (List Int)) (x119 : (List Int)) (x120 : (List T_api_Alt)) : Option ((Int × Int × Int × Int × Int × Int × Int × Int × Int × Bool × Int × (List Int) × (List Int) × (List T_api_Alt)) ⊕ (T_api_Effect)) :=
  cond (decide (x107 < ((p0.Ins).length : Int))) (cond x116 (F_run_Step_J4 p0 p1 y14 x107 x108 x109 x110 x111 x112 x113 x114 x115 x116 x117 x118 x119 x120 true) (cond (decide (x108 < 0)) (F_run_Step_J4 p0 p1 y14 x107 x108 x109 x110 x111 x112 x113 x114 x115 x116 x117 x118 x119 x120 true) (F_run_Step_J4 p0 p1 y14 x107 x108 x109 x110 x111 x112 x113 x114 x115 x116 x117 x118 x119 x120 (decide (((p0.Ins).length : Int) ≤ x108))))) ((F_run_Step_J2 y14 x109 x110 x111 x112 x113 x114 x115 x119 x120).map Sum.inr)
noncomputable def F_run_Step_J1 (p0 : T_api_Code) (p1 : T_api_Proc) (x9 : Bool) : Option (T_api_Effect) :=
  cond x9 (some (⟨0, 0, 0, 0, 0, 0, 0, ([] : List Int), ([] : List T_api_Alt), 0⟩ : T_api_Effect)) ((F_stack_New_int 12).bind fun y13 => (lAt p0.Ins p1.At).bind fun y14 => Loop (fun s : (Int × Int × Int × Int × Int × Int × Int × Int × Int × Bool × Int × (List Int) × (List Int) × (List T_api_Alt)) => F_run_Step_L5 p0 p1 y14 s.1 s.2.1 s.2.2.1 s.2.2.2.1 s.2.2.2.2.1 s.2.2.2.2.2.1 s.2.2.2.2.2.2.1 s.2.2.2.2.2.2.2.1 s.2.2.2.2.2.2.2.2.1 s.2.2.2.2.2.2.2.2.2.1 s.2.2.2.2.2.2.2.2.2.2.1 s.2.2.2.2.2.2.2.2.2.2.2.1 s.2.2.2.2.2.2.2.2.2.2.2.2.1 s.2.2.2.2.2.2.2.2.2.2.2.2.2) (0, (w64 (p1.At + 1)), 0, 0, 0, 0, 0, 0, 0, false, y13.most, ([] : (List Int)), ([] : (List Int)), ([] : (List T_api_Alt))))
noncomputable def F_run_Step (p0 : T_api_Code) (p1 : T_api_Proc) : Option (T_api_Effect) :=
  cond (p1.Mode != 0) (F_run_Step_J1 p0 p1 true) ((F_code_Stmt p0 p1.At).bind fun y187 => F_run_Step_J1 p0 p1 (decide (y187 < 0)))
/- slices_Equal_int_int -/
noncomputable def F_slices_Equal_int_int_L1 (p0 : (List Int)) (p1 : (List Int)) (x22 : Int) : Option ((Int) ⊕ (Bool)) :=
  cond (decide (x22 < ((p0).length : Int))) ((lAt p0 x22).bind fun y34 => (lAt p1 x22).bind fun y35 => cond (y34 != y35) ((some false).map Sum.inr) (some (.inl (w64 (x22 + 1))))) ((some true).map Sum.inr)
noncomputable def F_slices_Equal_int_int (p0 : (List Int)) (p1 : (List Int)) : Option (Bool) :=
  cond (((p0).length : Int) != ((p1).length : Int)) (some false) (Loop (fun s : (Int) => F_slices_Equal_int_int_L1 p0 p1 s) 0)
/- slices_Equal_retrace_api_Alt_retrace_api_Alt -/
noncomputable def F_slices_Equal_retrace_api_Alt_retrace_api_Alt_L1 (p0 : (List T_api_Alt)) (p1 : (List T_api_Alt)) (x22 : Int) : Option ((Int) ⊕ (Bool)) :=
  cond (decide (x22 < ((p0).length : Int))) ((lAt p0 x22).bind fun y34 => (lAt p1 x22).bind fun y35 => cond (!((y34.Kind == y35.Kind) && ((y34.Chan == y35.Chan) && ((y34.Val == y35.Val) && ((y34.Slot == y35.Slot) && ((y34.Goto == y35.Goto) && true)))))) ((some false).map Sum.inr) (some (.inl (w64 (x22 + 1))))) ((some true).map Sum.inr)
noncomputable def F_slices_Equal_retrace_api_Alt_retrace_api_Alt (p0 : (List T_api_Alt)) (p1 : (List T_api_Alt)) : Option (Bool) :=
  cond (((p0).length : Int) != ((p1).length : Int)) (some false) (Loop (fun s : (Int) => F_slices_Equal_retrace_api_Alt_retrace_api_Alt_L1 p0 p1 s) 0)
/- run_Same -/
noncomputable def F_run_Same_J1 (x12 : Bool) : Option (Bool) :=
  some x12
noncomputable def F_run_Same (p0 : T_api_Effect) (p1 : T_api_Effect) : Option (Bool) :=
  cond (p0.Kind == p1.Kind) (cond (p0.Stmt == p1.Stmt) (cond (p0.At == p1.At) (cond (p0.Chan == p1.Chan) (cond (p0.Val == p1.Val) (cond (p0.Slot == p1.Slot) (cond (p0.Def == p1.Def) (cond (p0.Fault == p1.Fault) ((F_slices_Equal_int_int p0.Args p1.Args).bind fun y21 => cond y21 ((F_slices_Equal_retrace_api_Alt_retrace_api_Alt p0.Alts p1.Alts).bind fun y23 => F_run_Same_J1 y23) (F_run_Same_J1 false)) (F_run_Same_J1 false)) (F_run_Same_J1 false)) (F_run_Same_J1 false)) (F_run_Same_J1 false)) (F_run_Same_J1 false)) (F_run_Same_J1 false)) (F_run_Same_J1 false)) (F_run_Same_J1 false)
/- retracelaw24_live -/
noncomputable def F_retracelaw24_live_J1 (x9 : Bool) : Option (Bool) :=
  some x9
noncomputable def F_retracelaw24_live  : Option (Bool) :=
  (F_retraceref19_Text (⟨#[109, 97, 105, 110, 32, 123, 32, 118, 97, 114, 32, 120, 32, 61, 32, 49, 32, 47, 32, 48, 59, 32, 125]⟩ : ByteArray)).bind fun y2 => (F_run_Step y2.C (⟨0, 0, [0], 1, 0, 0, 0, 0, 0, 0, ([] : (List T_api_Alt))⟩ : T_api_Proc)).bind fun y4 => cond (y4.Kind == 11) (cond (y4.Fault == 1) (cond (y4.Stmt == 0) ((F_run_Same y4 y4).bind fun y13 => F_retracelaw24_live_J1 y13) (F_retracelaw24_live_J1 false)) (F_retracelaw24_live_J1 false)) (F_retracelaw24_live_J1 false)
/- retraceref20_Stmt -/
noncomputable def F_retraceref20_Stmt_J1 (p0 : T_api_Code) (p1 : Int) (x14 : Bool) : Option (Int) :=
  cond x14 ((lAt p0.Ins p1).bind fun y17 => some y17.A) (some (-1))
noncomputable def F_retraceref20_Stmt (p0 : T_api_Code) (p1 : Int) : Option (Int) :=
  cond (decide (0 ≤ p1)) (cond (decide (p1 < ((p0.Ins).length : Int))) ((lAt p0.Ins p1).bind fun y20 => F_retraceref20_Stmt_J1 p0 p1 (y20.Op == 1)) (F_retraceref20_Stmt_J1 p0 p1 false)) (F_retraceref20_Stmt_J1 p0 p1 false)
/- retracelaw24_RunRests -/
noncomputable def F_retracelaw24_RunRests_J3 (x82 : Int) (x107 : Bool) : Option ((Int) ⊕ (Bool)) :=
  cond x107 ((some false).map Sum.inr) (some (.inl (w64 (x82 + 1))))
noncomputable def F_retracelaw24_RunRests_J5 (x136 : Bool) : Option (Bool) :=
  some x136
noncomputable def F_retracelaw24_RunRests_J6 (x143 : Bool) : Option (Bool) :=
  some x143
noncomputable def F_retracelaw24_RunRests_J4 (p0 : T_api_Code) (p1 : T_api_Proc) (y28 : T_api_Effect) (x132 : Bool) : Option (Bool) :=
  cond x132 (cond (y28.At == 0) ((F_retracelaw24_live).bind fun y138 => F_retracelaw24_RunRests_J5 y138) (F_retracelaw24_RunRests_J5 false)) (cond (((y28.Alts).length : Int) == 0) ((F_retraceref22_Rests p0 p1.Def y28.At).bind fun y145 => cond y145 ((F_retracelaw24_live).bind fun y147 => F_retracelaw24_RunRests_J6 y147) (F_retracelaw24_RunRests_J6 false)) (F_retracelaw24_RunRests_J6 false))
noncomputable def F_retracelaw24_RunRests_L7 (p0 : T_api_Code) (p1 : T_api_Proc) (y28 : T_api_Effect) (x82 : Int) : Option ((Int) ⊕ (Bool)) :=
  cond (decide (x82 < ((y28.Alts).length : Int))) ((lAt y28.Alts x82).bind fun y111 => (F_retraceref22_Rests p0 p1.Def y111.Goto).bind fun y112 => cond (!y112) (F_retracelaw24_RunRests_J3 x82 true) ((lAt y28.Alts x82).bind fun y114 => cond (decide (y114.Kind < 1)) (F_retracelaw24_RunRests_J3 x82 true) ((lAt y28.Alts x82).bind fun y116 => F_retracelaw24_RunRests_J3 x82 (decide (4 < y116.Kind))))) ((cond (y28.Kind == 9) (F_retracelaw24_RunRests_J4 p0 p1 y28 true) (cond (y28.Kind == 10) (F_retracelaw24_RunRests_J4 p0 p1 y28 true) (F_retracelaw24_RunRests_J4 p0 p1 y28 (y28.Kind == 11)))).map Sum.inr)
noncomputable def F_retracelaw24_RunRests_J2 (p0 : T_api_Code) (p1 : T_api_Proc) (y28 : T_api_Effect) (x43 : Bool) : Option (Bool) :=
  cond x43 (some false) (Loop (fun s : (Int) => F_retracelaw24_RunRests_L7 p0 p1 y28 s) 0)
noncomputable def F_retracelaw24_RunRests_J1 (p0 : T_api_Code) (p1 : T_api_Proc) (x23 : Bool) : Option (Bool) :=
  cond x23 ((F_retracelaw24_live).bind fun y26 => some y26) ((F_run_Step p0 p1).bind fun y28 => cond (decide (y28.Kind < 1)) (F_retracelaw24_RunRests_J2 p0 p1 y28 true) (cond (decide (11 < y28.Kind)) (F_retracelaw24_RunRests_J2 p0 p1 y28 true) ((F_retraceref20_Stmt p0 p1.At).bind fun y152 => cond (y28.Stmt != y152) (F_retracelaw24_RunRests_J2 p0 p1 y28 true) (F_retracelaw24_RunRests_J2 p0 p1 y28 (!((y28.Fault != 0) == (y28.Kind == 11)))))))
noncomputable def F_retracelaw24_RunRests (p0 : T_api_Code) (p1 : T_api_Proc) : Option (Bool) :=
  (F_retracelaw24_large p0 p1).bind fun y154 => cond y154 (F_retracelaw24_RunRests_J1 p0 p1 true) ((F_retraceref20_Right p0).bind fun y156 => cond (!y156) (F_retracelaw24_RunRests_J1 p0 p1 true) ((F_retraceref22_Is p0 p1).bind fun y158 => cond (!y158) (F_retracelaw24_RunRests_J1 p0 p1 true) (F_retracelaw24_RunRests_J1 p0 p1 (p1.Mode != 0))))

theorem mixedOrd : Tryz.prog.follows .mixedOrders = true := by kernel_rfl
end Go.Ab
