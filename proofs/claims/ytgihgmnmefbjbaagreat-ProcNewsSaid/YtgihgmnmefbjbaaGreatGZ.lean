import Derived.Test.YtgihgmnmefbjbaaGreatAbShort
import Derived.Test.YtgihgmnmefbjbaaGreatAbCon3
import Derived.Test.YtgihgmnmefbjbaaGreatProg
namespace Go.Ab
open Go.Proofs
set_option linter.unusedVariables false
structure T_api_Ins where
  Op : Int
  A : Int
  B : Int
abbrev T_api_Ins.enc (x : T_api_Ins) : List D := [.int .i64 x.Op, .int .i64 x.A, .int .i64 x.B]
theorem T_api_Ins.enc_len (x : T_api_Ins) : (T_api_Ins.enc x).length = 3 := rfl
abbrev T_api_Ins.pvs (x : T_api_Ins) : List PV := [i64 x.Op, i64 x.A, i64 x.B]
structure T_api_Def where
  Name : ByteArray
  Entry : Int
  Params : Int
  Vars : Int
abbrev T_api_Def.enc (x : T_api_Def) : List D := [.str x.Name, .int .i64 x.Entry, .int .i64 x.Params, .int .i64 x.Vars]
theorem T_api_Def.enc_len (x : T_api_Def) : (T_api_Def.enc x).length = 4 := rfl
abbrev T_api_Def.pvs (x : T_api_Def) : List PV := [sv x.Name, i64 x.Entry, i64 x.Params, i64 x.Vars]
structure T_api_Chan where
  Name : ByteArray
  Base : Int
  Size : Int
abbrev T_api_Chan.enc (x : T_api_Chan) : List D := [.str x.Name, .int .i64 x.Base, .int .i64 x.Size]
theorem T_api_Chan.enc_len (x : T_api_Chan) : (T_api_Chan.enc x).length = 3 := rfl
abbrev T_api_Chan.pvs (x : T_api_Chan) : List PV := [sv x.Name, i64 x.Base, i64 x.Size]
structure T_api_Code where
  Ins : (List T_api_Ins)
  Defs : (List T_api_Def)
  Chans : (List T_api_Chan)
  Main : Int
  Stmts : Int
abbrev T_api_Code.enc (x : T_api_Code) : List D := [.list false (x.Ins).length (encL T_api_Ins.enc x.Ins), .list false (x.Defs).length (encL T_api_Def.enc x.Defs), .list false (x.Chans).length (encL T_api_Chan.enc x.Chans), .int .i64 x.Main, .int .i64 x.Stmts]
theorem T_api_Code.enc_len (x : T_api_Code) : (T_api_Code.enc x).length = 5 := rfl
abbrev T_api_Code.pvs (x : T_api_Code) : List PV := [lv T_api_Ins.enc x.Ins, lv T_api_Def.enc x.Defs, lv T_api_Chan.enc x.Chans, i64 x.Main, i64 x.Stmts]
structure T_api_Alt where
  Kind : Int
  Chan : Int
  Val : Int
  Slot : Int
  Goto : Int
abbrev T_api_Alt.enc (x : T_api_Alt) : List D := [.int .i64 x.Kind, .int .i64 x.Chan, .int .i64 x.Val, .int .i64 x.Slot, .int .i64 x.Goto]
theorem T_api_Alt.enc_len (x : T_api_Alt) : (T_api_Alt.enc x).length = 5 := rfl
abbrev T_api_Alt.pvs (x : T_api_Alt) : List PV := [i64 x.Kind, i64 x.Chan, i64 x.Val, i64 x.Slot, i64 x.Goto]
structure T_api_Proc where
  Def : Int
  At : Int
  Vars : (List Int)
  Fuel : Int
  Mode : Int
  Chan : Int
  Val : Int
  Slot : Int
  Until : Int
  Since : Int
  Alts : (List T_api_Alt)
abbrev T_api_Proc.enc (x : T_api_Proc) : List D := [.int .i64 x.Def, .int .i64 x.At, .list false (x.Vars).length (encL (eInt .i64) x.Vars), .int .i64 x.Fuel, .int .i64 x.Mode, .int .i64 x.Chan, .int .i64 x.Val, .int .i64 x.Slot, .int .i64 x.Until, .int .i64 x.Since, .list false (x.Alts).length (encL T_api_Alt.enc x.Alts)]
theorem T_api_Proc.enc_len (x : T_api_Proc) : (T_api_Proc.enc x).length = 11 := rfl
abbrev T_api_Proc.pvs (x : T_api_Proc) : List PV := [i64 x.Def, i64 x.At, lv (eInt .i64) x.Vars, i64 x.Fuel, i64 x.Mode, i64 x.Chan, i64 x.Val, i64 x.Slot, i64 x.Until, i64 x.Since, lv T_api_Alt.enc x.Alts]
structure T_retraceref20_Is where
  Come : Bool
  N : Int
  Choose : Bool
abbrev T_retraceref20_Is.enc (x : T_retraceref20_Is) : List D := [.bool x.Come, .int .i64 x.N, .bool x.Choose]
theorem T_retraceref20_Is.enc_len (x : T_retraceref20_Is) : (T_retraceref20_Is.enc x).length = 3 := rfl
abbrev T_retraceref20_Is.pvs (x : T_retraceref20_Is) : List PV := [bo x.Come, i64 x.N, bo x.Choose]
structure T_retraceref19_Got where
  C : T_api_Code
  At : Int
  E : Int
abbrev T_retraceref19_Got.enc (x : T_retraceref19_Got) : List D := [.list false (x.C.Ins).length (encL T_api_Ins.enc x.C.Ins), .list false (x.C.Defs).length (encL T_api_Def.enc x.C.Defs), .list false (x.C.Chans).length (encL T_api_Chan.enc x.C.Chans), .int .i64 x.C.Main, .int .i64 x.C.Stmts, .int .i64 x.At, .int .i64 x.E]
theorem T_retraceref19_Got.enc_len (x : T_retraceref19_Got) : (T_retraceref19_Got.enc x).length = 7 := rfl
abbrev T_retraceref19_Got.pvs (x : T_retraceref19_Got) : List PV := [lv T_api_Ins.enc x.C.Ins, lv T_api_Def.enc x.C.Defs, lv T_api_Chan.enc x.C.Chans, i64 x.C.Main, i64 x.C.Stmts, i64 x.At, i64 x.E]
structure T_retraceref22_Got where
  P : T_api_Proc
  E : Int
abbrev T_retraceref22_Got.enc (x : T_retraceref22_Got) : List D := [.int .i64 x.P.Def, .int .i64 x.P.At, .list false (x.P.Vars).length (encL (eInt .i64) x.P.Vars), .int .i64 x.P.Fuel, .int .i64 x.P.Mode, .int .i64 x.P.Chan, .int .i64 x.P.Val, .int .i64 x.P.Slot, .int .i64 x.P.Until, .int .i64 x.P.Since, .list false (x.P.Alts).length (encL T_api_Alt.enc x.P.Alts), .int .i64 x.E]
theorem T_retraceref22_Got.enc_len (x : T_retraceref22_Got) : (T_retraceref22_Got.enc x).length = 12 := rfl
abbrev T_retraceref22_Got.pvs (x : T_retraceref22_Got) : List PV := [i64 x.P.Def, i64 x.P.At, lv (eInt .i64) x.P.Vars, i64 x.P.Fuel, i64 x.P.Mode, i64 x.P.Chan, i64 x.P.Val, i64 x.P.Slot, i64 x.P.Until, i64 x.P.Since, lv T_api_Alt.enc x.P.Alts, i64 x.E]
noncomputable def as_code_Routine_0 : Code := cAt [1, 1, 0, 1, 0, 0] (bOf Tryz.f77)
noncomputable def bd_code_Routine_0 : Code := cAt [1, 1, 0, 1, 0, 1] (bOf Tryz.f77)
/- retracelaw22_large -/
noncomputable def F_retracelaw22_large_J1 (x5 : Bool) : Option (Bool) :=
  some x5
noncomputable def F_retracelaw22_large (p0 : T_api_Code) (p1 : T_api_Proc) : Option (Bool) :=
  cond (decide (150 < ((p0.Ins).length : Int))) (F_retracelaw22_large_J1 true) (cond (decide (40 < ((p0.Defs).length : Int))) (F_retracelaw22_large_J1 true) (cond (decide (80 < ((p0.Chans).length : Int))) (F_retracelaw22_large_J1 true) (cond (decide (40 < ((p1.Vars).length : Int))) (F_retracelaw22_large_J1 true) (F_retracelaw22_large_J1 (decide (40 < ((p1.Alts).length : Int)))))))
/- retraceref08_Letter -/
noncomputable def F_retraceref08_Letter_J1 (x7 : Bool) : Option (Bool) :=
  some x7
noncomputable def F_retraceref08_Letter (p0 : Int) : Option (Bool) :=
  cond (decide (97 ≤ p0)) (cond (decide (p0 ≤ 122)) (F_retraceref08_Letter_J1 true) (cond (decide (65 ≤ p0)) (cond (decide (p0 ≤ 90)) (F_retraceref08_Letter_J1 true) (F_retraceref08_Letter_J1 (p0 == 95))) (F_retraceref08_Letter_J1 (p0 == 95)))) (cond (decide (65 ≤ p0)) (cond (decide (p0 ≤ 90)) (F_retraceref08_Letter_J1 true) (F_retraceref08_Letter_J1 (p0 == 95))) (F_retraceref08_Letter_J1 (p0 == 95)))
/- retraceref08_Digit -/
noncomputable def F_retraceref08_Digit_J1 (x2 : Bool) : Option (Bool) :=
  some x2
noncomputable def F_retraceref08_Digit (p0 : Int) : Option (Bool) :=
  cond (decide (48 ≤ p0)) (F_retraceref08_Digit_J1 (decide (p0 ≤ 57))) (F_retraceref08_Digit_J1 false)
/- retraceref08_Words -/
noncomputable def F_retraceref08_Words  : Option ((List ByteArray)) :=
  some ([(⟨#[99, 104, 97, 110]⟩ : ByteArray), (⟨#[112, 114, 111, 99]⟩ : ByteArray), (⟨#[109, 97, 105, 110]⟩ : ByteArray), (⟨#[118, 97, 114]⟩ : ByteArray), (⟨#[105, 102]⟩ : ByteArray), (⟨#[101, 108, 115, 101]⟩ : ByteArray), (⟨#[119, 104, 105, 108, 101]⟩ : ByteArray), (⟨#[115, 101, 108, 101, 99, 116]⟩ : ByteArray), (⟨#[99, 97, 115, 101]⟩ : ByteArray), (⟨#[119, 104, 101, 110]⟩ : ByteArray), (⟨#[97, 102, 116, 101, 114]⟩ : ByteArray), (⟨#[115, 116, 97, 114, 116]⟩ : ByteArray), (⟨#[115, 108, 101, 101, 112]⟩ : ByteArray), (⟨#[114, 97, 110, 100, 111, 109]⟩ : ByteArray), (⟨#[112, 114, 105, 110, 116]⟩ : ByteArray), (⟨#[97, 115, 115, 101, 114, 116]⟩ : ByteArray), (⟨#[115, 107, 105, 112]⟩ : ByteArray), (⟨#[115, 116, 111, 112]⟩ : ByteArray)])
/- retraceref08_In -/
noncomputable def F_retraceref08_In_L1 (p1 : ByteArray) (o0 : (List ByteArray)) (x16 : Int) : Option ((Int) ⊕ (Bool)) :=
  cond (decide (x16 < ((o0).length : Int))) ((lAt o0 x16).bind fun y25 => cond (y25.toList == p1.toList) ((some true).map Sum.inr) (some (.inl (w64 (x16 + 1))))) ((some false).map Sum.inr)
noncomputable def F_retraceref08_In (p1 : ByteArray) (o0 : (List ByteArray)) : Option (Bool) :=
  Loop (fun s : (Int) => F_retraceref08_In_L1 p1 o0 s) 0
/- retraceref08_Name -/
noncomputable def F_retraceref08_Name_J1 (x38 : Int) (x63 : Bool) : Option ((Int) ⊕ (Bool)) :=
  cond x63 ((some false).map Sum.inr) (some (.inl (w64 (x38 + 1))))
noncomputable def F_retraceref08_Name_J2 (x79 : Bool) : Option (Bool) :=
  some x79
noncomputable def F_retraceref08_Name_L3 (p0 : ByteArray) (x38 : Int) : Option ((Int) ⊕ (Bool)) :=
  cond (decide (x38 < (p0.size : Int))) ((sAt p0 x38).bind fun y67 => (F_retraceref08_Letter y67).bind fun y68 => cond (!y68) (cond (x38 == 0) (F_retraceref08_Name_J1 x38 true) ((sAt p0 x38).bind fun y71 => (F_retraceref08_Digit y71).bind fun y72 => F_retraceref08_Name_J1 x38 (!y72))) (F_retraceref08_Name_J1 x38 false)) ((cond (decide (1 ≤ (p0.size : Int))) (cond (decide ((p0.size : Int) ≤ 16)) ((F_retraceref08_Words).bind fun y82 => (F_retraceref08_In p0 y82).bind fun y83 => F_retraceref08_Name_J2 (!y83)) (F_retraceref08_Name_J2 false)) (F_retraceref08_Name_J2 false)).map Sum.inr)
noncomputable def F_retraceref08_Name (p0 : ByteArray) : Option (Bool) :=
  Loop (fun s : (Int) => F_retraceref08_Name_L3 p0 s) 0
/- retraceref20_tables -/
noncomputable def F_retraceref20_tables_J3 (x210 : Int) (x370 : Bool) : Option ((Int) ⊕ (Bool)) :=
  cond x370 ((some false).map Sum.inr) (some (.inl (w64 (x210 + 1))))
noncomputable def F_retraceref20_tables_J2 (x210 : Int) (y304 : T_api_Def) (x364 : Bool) : Option ((Int) ⊕ (Bool)) :=
  cond x364 ((some false).map Sum.inr) (cond (decide (y304.Params < 0)) (F_retraceref20_tables_J3 x210 true) (cond (decide (y304.Vars < y304.Params)) (F_retraceref20_tables_J3 x210 true) (F_retraceref20_tables_J3 x210 (decide (16 < y304.Vars)))))
noncomputable def F_retraceref20_tables_J4 (x463 : Int) (x495 : Int) : Option ((Int × Int) ⊕ (Bool)) :=
  some (.inl (x495, (w64 (x463 + 1))))
noncomputable def F_retraceref20_tables_J5 (x462 : Int) (x463 : Int) (y497 : T_api_Chan) (x515 : Bool) : Option ((Int × Int) ⊕ (Bool)) :=
  cond x515 ((some false).map Sum.inr) (cond (y497.Size == 0) (F_retraceref20_tables_J4 x463 (w64 ((w64 (x462 + y497.Size)) + 1))) (F_retraceref20_tables_J4 x463 (w64 (x462 + y497.Size))))
noncomputable def F_retraceref20_tables_L6 (p0 : T_api_Code) (x462 : Int) (x463 : Int) : Option ((Int × Int) ⊕ (Bool)) :=
  cond (decide (x463 < ((p0.Chans).length : Int))) ((lAt p0.Chans x463).bind fun y497 => (F_retraceref08_Name y497.Name).bind fun y520 => cond (!y520) (F_retraceref20_tables_J5 x462 x463 y497 true) (cond (decide (y497.Size < 0)) (F_retraceref20_tables_J5 x462 x463 y497 true) (cond (decide (16 < y497.Size)) (F_retraceref20_tables_J5 x462 x463 y497 true) (cond (y497.Base != x462) (F_retraceref20_tables_J5 x462 x463 y497 true) (F_retraceref20_tables_J5 x462 x463 y497 (decide (64 ≤ x462))))))) ((some (decide (x462 ≤ 64))).map Sum.inr)
noncomputable def F_retraceref20_tables_L7 (p0 : T_api_Code) (x210 : Int) : Option ((Int) ⊕ (Bool)) :=
  cond (decide (x210 < ((p0.Defs).length : Int))) ((lAt p0.Defs x210).bind fun y304 => cond (!(y304.Name.toList == (⟨#[109, 97, 105, 110]⟩ : ByteArray).toList)) ((F_retraceref08_Name y304.Name).bind fun y377 => cond (!y377) (F_retraceref20_tables_J2 x210 y304 true) (cond (decide (y304.Entry < 0)) (F_retraceref20_tables_J2 x210 y304 true) (cond (decide (((p0.Ins).length : Int) ≤ y304.Entry)) (F_retraceref20_tables_J2 x210 y304 true) (cond (x210 == 0) (cond (y304.Entry != 0) (F_retraceref20_tables_J2 x210 y304 true) (cond (decide (0 < x210)) ((lAt p0.Defs (w64 (x210 - 1))).bind fun y384 => F_retraceref20_tables_J2 x210 y304 (decide (y304.Entry ≤ y384.Entry))) (F_retraceref20_tables_J2 x210 y304 false))) (cond (decide (0 < x210)) ((lAt p0.Defs (w64 (x210 - 1))).bind fun y386 => F_retraceref20_tables_J2 x210 y304 (decide (y304.Entry ≤ y386.Entry))) (F_retraceref20_tables_J2 x210 y304 false)))))) (cond (decide (y304.Entry < 0)) (F_retraceref20_tables_J2 x210 y304 true) (cond (decide (((p0.Ins).length : Int) ≤ y304.Entry)) (F_retraceref20_tables_J2 x210 y304 true) (cond (x210 == 0) (cond (y304.Entry != 0) (F_retraceref20_tables_J2 x210 y304 true) (cond (decide (0 < x210)) ((lAt p0.Defs (w64 (x210 - 1))).bind fun y392 => F_retraceref20_tables_J2 x210 y304 (decide (y304.Entry ≤ y392.Entry))) (F_retraceref20_tables_J2 x210 y304 false))) (cond (decide (0 < x210)) ((lAt p0.Defs (w64 (x210 - 1))).bind fun y394 => F_retraceref20_tables_J2 x210 y304 (decide (y304.Entry ≤ y394.Entry))) (F_retraceref20_tables_J2 x210 y304 false)))))) ((Loop (fun s : (Int × Int) => F_retraceref20_tables_L6 p0 s.1 s.2) (0, 0)).map Sum.inr)
noncomputable def F_retraceref20_tables_J1 (p0 : T_api_Code) (x21 : Bool) : Option (Bool) :=
  cond x21 (some false) (Loop (fun s : (Int) => F_retraceref20_tables_L7 p0 s) 0)
noncomputable def F_retraceref20_tables (p0 : T_api_Code) : Option (Bool) :=
  cond (decide (((p0.Defs).length : Int) < 1)) (F_retraceref20_tables_J1 p0 true) (cond (decide (32 < ((p0.Defs).length : Int))) (F_retraceref20_tables_J1 p0 true) (cond (decide (65536 < ((p0.Ins).length : Int))) (F_retraceref20_tables_J1 p0 true) (cond (decide (p0.Main < 0)) (F_retraceref20_tables_J1 p0 true) (cond (decide (((p0.Defs).length : Int) ≤ p0.Main)) (F_retraceref20_tables_J1 p0 true) ((lAt p0.Defs p0.Main).bind fun y532 => F_retraceref20_tables_J1 p0 (y532.Params != 0))))))
/- retraceref20_To -/
noncomputable def F_retraceref20_To (p0 : T_api_Code) (p1 : Int) : Option (Int) :=
  cond (decide ((w64 (p1 + 1)) < ((p0.Defs).length : Int))) ((lAt p0.Defs (w64 (p1 + 1))).bind fun y6 => some y6.Entry) (some ((p0.Ins).length : Int))
/- retraceref16_Nums -/
noncomputable def F_retraceref16_Nums_J2 (x49 : Bool) : Option (Int) :=
  cond x49 (some 1) (some 0)
noncomputable def F_retraceref16_Nums_J1 (p0 : Int) (x35 : Bool) : Option (Int) :=
  cond x35 (some 2) (cond (p0 == 1) (F_retraceref16_Nums_J2 (p0 == 1)) (cond (p0 == 2) (F_retraceref16_Nums_J2 (p0 == 2)) (cond (p0 == 3) (F_retraceref16_Nums_J2 (p0 == 3)) (cond (p0 == 4) (F_retraceref16_Nums_J2 (p0 == 4)) (cond (p0 == 5) (F_retraceref16_Nums_J2 (p0 == 5)) (cond (p0 == 6) (F_retraceref16_Nums_J2 (p0 == 6)) (cond (p0 == 7) (F_retraceref16_Nums_J2 (p0 == 7)) (cond (p0 == 8) (F_retraceref16_Nums_J2 (p0 == 8)) (cond (p0 == 11) (F_retraceref16_Nums_J2 (p0 == 11)) (cond (p0 == 12) (F_retraceref16_Nums_J2 (p0 == 12)) (cond (p0 == 20) (F_retraceref16_Nums_J2 (p0 == 20)) (cond (p0 == 21) (F_retraceref16_Nums_J2 (p0 == 21)) (F_retraceref16_Nums_J2 (p0 == 22))))))))))))))
noncomputable def F_retraceref16_Nums (p0 : Int) : Option (Int) :=
  cond (p0 == 9) (F_retraceref16_Nums_J1 p0 (p0 == 9)) (cond (p0 == 14) (F_retraceref16_Nums_J1 p0 (p0 == 14)) (F_retraceref16_Nums_J1 p0 (p0 == 19)))
/- retraceref16_Right -/
noncomputable def F_retraceref16_Right_J2 (x45 : Bool) : Option (Bool) :=
  cond x45 (some false) (some true)
noncomputable def F_retraceref16_Right_J1 (p0 : T_api_Ins) (x23 : Bool) : Option (Bool) :=
  cond x23 (some false) (cond (p0.Op == 14) (cond (decide (p0.B < 0)) (F_retraceref16_Right_J2 true) (cond (p0.Op == 5) (cond (decide (p0.A < 3)) (F_retraceref16_Right_J2 true) (F_retraceref16_Right_J2 (decide (17 < p0.A)))) (F_retraceref16_Right_J2 false))) (cond (p0.Op == 5) (cond (decide (p0.A < 3)) (F_retraceref16_Right_J2 true) (F_retraceref16_Right_J2 (decide (17 < p0.A)))) (F_retraceref16_Right_J2 false)))
noncomputable def F_retraceref16_Right (p0 : T_api_Ins) : Option (Bool) :=
  (F_retraceref16_Nums p0.Op).bind fun y2 => cond (decide (p0.Op < 1)) (F_retraceref16_Right_J1 p0 true) (cond (decide (25 < p0.Op)) (F_retraceref16_Right_J1 p0 true) (cond (y2 == 0) (cond (p0.A != 0) (F_retraceref16_Right_J1 p0 true) (cond (decide (y2 < 2)) (F_retraceref16_Right_J1 p0 (p0.B != 0)) (F_retraceref16_Right_J1 p0 false))) (cond (decide (y2 < 2)) (F_retraceref16_Right_J1 p0 (p0.B != 0)) (F_retraceref16_Right_J1 p0 false))))
/- retraceref20_channel -/
noncomputable def F_retraceref20_channel_J1 (x26 : Int) (x42 : Bool) : Option ((Int) ⊕ (Bool)) :=
  cond x42 ((some true).map Sum.inr) (some (.inl (w64 (x26 + 1))))
noncomputable def F_retraceref20_channel_L2 (p0 : T_api_Code) (p1 : Int) (p2 : Int) (x26 : Int) : Option ((Int) ⊕ (Bool)) :=
  cond (decide (x26 < ((p0.Chans).length : Int))) ((lAt p0.Chans x26).bind fun y46 => cond (y46.Base == p1) ((lAt p0.Chans x26).bind fun y48 => F_retraceref20_channel_J1 x26 (y48.Size == p2)) (F_retraceref20_channel_J1 x26 false)) ((some false).map Sum.inr)
noncomputable def F_retraceref20_channel (p0 : T_api_Code) (p1 : Int) (p2 : Int) : Option (Bool) :=
  Loop (fun s : (Int) => F_retraceref20_channel_L2 p0 p1 p2 s) 0
/- retraceref17_Which -/
noncomputable def F_retraceref17_Which_J1 (x20 : Bool) : Option (Int) :=
  cond x20 (some 1) (some 0)
noncomputable def F_retraceref17_Which (p0 : Int) : Option (Int) :=
  cond (p0 == 19) (some 2) (cond (p0 == 6) (F_retraceref17_Which_J1 true) (cond (p0 == 7) (F_retraceref17_Which_J1 true) (cond (p0 == 8) (F_retraceref17_Which_J1 true) (cond (p0 == 20) (F_retraceref17_Which_J1 true) (cond (p0 == 21) (F_retraceref17_Which_J1 true) (F_retraceref17_Which_J1 (p0 == 22)))))))
/- retraceref20_target -/
noncomputable def F_retraceref20_target (p0 : T_api_Ins) : Option (Int × Bool) :=
  (F_retraceref17_Which p0.Op).bind fun y6 => cond (y6 == 1) (some (p0.A, true)) (cond (y6 == 2) (some (p0.B, true)) (some (0, false)))
/- retraceref20_Chooses -/
noncomputable def F_retraceref20_Chooses_J1 (x2 : Bool) : Option (Bool) :=
  some x2
noncomputable def F_retraceref20_Chooses (p0 : Int) : Option (Bool) :=
  cond (decide (19 ≤ p0)) (F_retraceref20_Chooses_J1 (decide (p0 ≤ 22))) (F_retraceref20_Chooses_J1 false)
/- retraceref20_Settle -/
noncomputable def F_retraceref20_Settle_J1 (p0 : T_api_Code) (x45 : Int) (x46 : Int) (x79 : Bool) : Option ((Int × Int) ⊕ (Int)) :=
  cond x79 ((some x45).map Sum.inr) ((lAt p0.Ins x45).bind fun y83 => some (.inl (y83.A, (w64 (x46 + 1)))))
noncomputable def F_retraceref20_Settle_L2 (p0 : T_api_Code) (p1 : Int) (x45 : Int) (x46 : Int) : Option ((Int × Int) ⊕ (Int)) :=
  cond (decide (x46 ≤ ((p0.Ins).length : Int))) (cond (decide (x45 < 0)) (F_retraceref20_Settle_J1 p0 x45 x46 true) (cond (decide (((p0.Ins).length : Int) ≤ x45)) (F_retraceref20_Settle_J1 p0 x45 x46 true) ((lAt p0.Ins x45).bind fun y86 => F_retraceref20_Settle_J1 p0 x45 x46 (y86.Op != 6)))) ((some p1).map Sum.inr)
noncomputable def F_retraceref20_Settle (p0 : T_api_Code) (p1 : Int) : Option (Int) :=
  Loop (fun s : (Int × Int) => F_retraceref20_Settle_L2 p0 p1 s.1 s.2) (p1, 0)
/- retraceref20_rests -/
noncomputable def F_retraceref20_rests_J1 (x10 : Bool) : Option (Bool) :=
  some x10
noncomputable def F_retraceref20_rests (p0 : T_api_Code) (p1 : Int) (p2 : Int) : Option (Bool) :=
  (F_retraceref20_Settle p0 p2).bind fun y2 => (lAt p0.Defs p1).bind fun y11 => cond (decide (y11.Entry ≤ y2)) ((F_retraceref20_To p0 p1).bind fun y13 => cond (decide (y2 < y13)) ((lAt p0.Ins y2).bind fun y15 => cond (y15.Op == 1) (F_retraceref20_rests_J1 true) ((lAt p0.Ins y2).bind fun y17 => F_retraceref20_rests_J1 (y17.Op == 24))) (F_retraceref20_rests_J1 false)) (F_retraceref20_rests_J1 false)
/- retraceref20_Acts -/
noncomputable def F_retraceref20_Acts_J1 (x5 : Bool) : Option (Bool) :=
  some x5
noncomputable def F_retraceref20_Acts (p0 : Int) : Option (Bool) :=
  cond (p0 == 4) (F_retraceref20_Acts_J1 true) (cond (p0 == 10) (F_retraceref20_Acts_J1 true) (cond (p0 == 11) (F_retraceref20_Acts_J1 true) (cond (decide (12 ≤ p0)) (F_retraceref20_Acts_J1 (decide (p0 ≤ 17))) (F_retraceref20_Acts_J1 false))))
/- retraceref20_may -/
noncomputable def F_retraceref20_may_J7 (x130 : Bool) : Option (Bool) :=
  some x130
noncomputable def F_retraceref20_may_J6 (p0 : T_api_Code) (p1 : Int) (p2 : Int) (y4 : T_api_Ins) : Option (Bool) :=
  (F_retraceref20_Acts y4.Op).bind fun y131 => cond (!y131) (F_retraceref20_may_J7 true) ((F_retraceref20_rests p0 p1 (w64 (p2 + 1))).bind fun y133 => F_retraceref20_may_J7 y133)
noncomputable def F_retraceref20_may_J8 (p0 : T_api_Code) (p1 : Int) (p2 : Int) (y4 : T_api_Ins) (x148 : Bool) : Option (Bool) :=
  cond x148 (some false) (F_retraceref20_may_J6 p0 p1 p2 y4)
noncomputable def F_retraceref20_may_J5 (p0 : T_api_Code) (p1 : Int) (p2 : Int) (y4 : T_api_Ins) (y5 : T_api_Def) (y6 : Int) (x98 : Bool) : Option (Bool) :=
  cond x98 (some false) ((F_retraceref20_target y4).bind fun y135 => cond y135.2 (cond (decide (y135.1 < y5.Entry)) (F_retraceref20_may_J8 p0 p1 p2 y4 true) (cond (decide (y6 ≤ y135.1)) (F_retraceref20_may_J8 p0 p1 p2 y4 true) (cond (decide (y135.1 ≤ p2)) ((lAt p0.Ins y135.1).bind fun y153 => cond (y153.Op != 1) (F_retraceref20_may_J8 p0 p1 p2 y4 true) ((F_retraceref20_Chooses y4.Op).bind fun y155 => cond y155 ((F_retraceref20_rests p0 p1 y135.1).bind fun y157 => F_retraceref20_may_J8 p0 p1 p2 y4 (!y157)) (F_retraceref20_may_J8 p0 p1 p2 y4 false))) ((F_retraceref20_Chooses y4.Op).bind fun y158 => cond y158 ((F_retraceref20_rests p0 p1 y135.1).bind fun y160 => F_retraceref20_may_J8 p0 p1 p2 y4 (!y160)) (F_retraceref20_may_J8 p0 p1 p2 y4 false))))) (F_retraceref20_may_J6 p0 p1 p2 y4))
noncomputable def F_retraceref20_may_J4 (p0 : T_api_Code) (p1 : Int) (p2 : Int) (y4 : T_api_Ins) (y5 : T_api_Def) (y6 : Int) (x82 : Bool) : Option (Bool) :=
  cond x82 (some false) (cond (y4.Op == 14) (cond (decide (y4.A < 0)) (F_retraceref20_may_J5 p0 p1 p2 y4 y5 y6 true) (cond (decide (((p0.Defs).length : Int) ≤ y4.A)) (F_retraceref20_may_J5 p0 p1 p2 y4 y5 y6 true) ((lAt p0.Defs y4.A).bind fun y164 => F_retraceref20_may_J5 p0 p1 p2 y4 y5 y6 (y4.B != y164.Params)))) (F_retraceref20_may_J5 p0 p1 p2 y4 y5 y6 false))
noncomputable def F_retraceref20_may_J3 (p0 : T_api_Code) (p1 : Int) (p2 : Int) (y4 : T_api_Ins) (y5 : T_api_Def) (y6 : Int) (x55 : Bool) : Option (Bool) :=
  cond x55 (cond (decide (y4.A < 0)) (F_retraceref20_may_J4 p0 p1 p2 y4 y5 y6 true) ((lAt p0.Defs p1).bind fun y167 => cond (decide (y167.Vars ≤ y4.A)) (F_retraceref20_may_J4 p0 p1 p2 y4 y5 y6 true) (cond (y4.Op == 9) ((F_retraceref20_channel p0 y4.A y4.B).bind fun y170 => F_retraceref20_may_J4 p0 p1 p2 y4 y5 y6 (!y170)) (F_retraceref20_may_J4 p0 p1 p2 y4 y5 y6 false)))) (cond (y4.Op == 9) ((F_retraceref20_channel p0 y4.A y4.B).bind fun y172 => F_retraceref20_may_J4 p0 p1 p2 y4 y5 y6 (!y172)) (F_retraceref20_may_J4 p0 p1 p2 y4 y5 y6 false))
noncomputable def F_retraceref20_may_J2 (p0 : T_api_Code) (p1 : Int) (p2 : Int) (y4 : T_api_Ins) (y5 : T_api_Def) (y6 : Int) (x49 : Bool) : Option (Bool) :=
  cond x49 (some false) (cond (y4.Op == 3) (F_retraceref20_may_J3 p0 p1 p2 y4 y5 y6 true) (cond (y4.Op == 4) (F_retraceref20_may_J3 p0 p1 p2 y4 y5 y6 true) (cond (y4.Op == 11) (F_retraceref20_may_J3 p0 p1 p2 y4 y5 y6 true) (cond (y4.Op == 12) (F_retraceref20_may_J3 p0 p1 p2 y4 y5 y6 true) (F_retraceref20_may_J3 p0 p1 p2 y4 y5 y6 (y4.Op == 19))))))
noncomputable def F_retraceref20_may_J1 (p0 : T_api_Code) (p1 : Int) (p2 : Int) (p3 : Int) (y4 : T_api_Ins) (y5 : T_api_Def) (y6 : Int) (x27 : Bool) : Option (Bool) :=
  cond x27 (some false) (cond (p2 == y5.Entry) (cond (y4.Op != 1) (cond (y4.Op != 24) (F_retraceref20_may_J2 p0 p1 p2 y4 y5 y6 true) (cond (y4.Op == 1) (F_retraceref20_may_J2 p0 p1 p2 y4 y5 y6 (y4.A != p3)) (F_retraceref20_may_J2 p0 p1 p2 y4 y5 y6 false))) (cond (y4.Op == 1) (F_retraceref20_may_J2 p0 p1 p2 y4 y5 y6 (y4.A != p3)) (F_retraceref20_may_J2 p0 p1 p2 y4 y5 y6 false))) (cond (y4.Op == 1) (F_retraceref20_may_J2 p0 p1 p2 y4 y5 y6 (y4.A != p3)) (F_retraceref20_may_J2 p0 p1 p2 y4 y5 y6 false)))
noncomputable def F_retraceref20_may (p0 : T_api_Code) (p1 : Int) (p2 : Int) (p3 : Int) : Option (Bool) :=
  (lAt p0.Ins p2).bind fun y4 => (lAt p0.Defs p1).bind fun y5 => (F_retraceref20_To p0 p1).bind fun y6 => (F_retraceref16_Right y4).bind fun y183 => cond (!y183) (F_retraceref20_may_J1 p0 p1 p2 p3 y4 y5 y6 true) (cond (y4.Op == 24) (cond (p2 != (w64 (y6 - 1))) (F_retraceref20_may_J1 p0 p1 p2 p3 y4 y5 y6 true) (cond (y4.Op != 24) (F_retraceref20_may_J1 p0 p1 p2 p3 y4 y5 y6 (p2 == (w64 (y6 - 1)))) (F_retraceref20_may_J1 p0 p1 p2 p3 y4 y5 y6 false))) (cond (y4.Op != 24) (F_retraceref20_may_J1 p0 p1 p2 p3 y4 y5 y6 (p2 == (w64 (y6 - 1)))) (F_retraceref20_may_J1 p0 p1 p2 p3 y4 y5 y6 false)))
/- retraceref15_Wide -/
noncomputable def F_retraceref15_Wide_J2 (x13 : Bool) : Option (Int) :=
  cond x13 (some 2) (some 0)
noncomputable def F_retraceref15_Wide_J1 (p0 : Int) (x6 : Bool) : Option (Int) :=
  cond x6 (some 1) (cond (decide (5 ≤ p0)) (F_retraceref15_Wide_J2 (decide (p0 ≤ 17))) (F_retraceref15_Wide_J2 false))
noncomputable def F_retraceref15_Wide (p0 : Int) : Option (Int) :=
  cond (p0 == 3) (F_retraceref15_Wide_J1 p0 true) (F_retraceref15_Wide_J1 p0 (p0 == 4))
/- retraceref16_Takes -/
noncomputable def F_retraceref16_Takes_J1  : Option (Int) :=
  some 0
noncomputable def F_retraceref16_Takes_J3 (x55 : Bool) : Option (Int) :=
  cond x55 (some 1) (F_retraceref16_Takes_J1)
noncomputable def F_retraceref16_Takes_J2 (p0 : T_api_Ins) (x44 : Bool) : Option (Int) :=
  cond x44 (some 2) (cond (p0.Op == 4) (F_retraceref16_Takes_J3 (p0.Op == 4)) (cond (p0.Op == 7) (F_retraceref16_Takes_J3 (p0.Op == 7)) (cond (p0.Op == 8) (F_retraceref16_Takes_J3 (p0.Op == 8)) (cond (p0.Op == 11) (F_retraceref16_Takes_J3 (p0.Op == 11)) (cond (p0.Op == 12) (F_retraceref16_Takes_J3 (p0.Op == 12)) (cond (p0.Op == 13) (F_retraceref16_Takes_J3 (p0.Op == 13)) (cond (p0.Op == 15) (F_retraceref16_Takes_J3 (p0.Op == 15)) (cond (p0.Op == 16) (F_retraceref16_Takes_J3 (p0.Op == 16)) (cond (p0.Op == 19) (F_retraceref16_Takes_J3 (p0.Op == 19)) (F_retraceref16_Takes_J3 (p0.Op == 21)))))))))))
noncomputable def F_retraceref16_Takes (p0 : T_api_Ins) : Option (Int) :=
  (F_retraceref16_Right p0).bind fun y5 => cond (!y5) (some 0) (cond (p0.Op == 5) ((F_retraceref15_Wide p0.A).bind fun y39 => some y39) (cond (p0.Op == 14) (some p0.B) (cond (p0.Op == 9) (cond (decide (0 < p0.B)) (some 1) (F_retraceref16_Takes_J1)) (cond (p0.Op == 10) (F_retraceref16_Takes_J2 p0 (p0.Op == 10)) (F_retraceref16_Takes_J2 p0 (p0.Op == 20))))))
/- retraceref20_fits -/
noncomputable def F_retraceref20_fits_J2 (x19 : Bool) : Option (Bool) :=
  some x19
noncomputable def F_retraceref20_fits_J3 (x27 : Bool) : Option (Bool) :=
  some x27
noncomputable def F_retraceref20_fits_J4 (x39 : Bool) : Option (Bool) :=
  some x39
noncomputable def F_retraceref20_fits_J6 (x55 : Bool) : Option (Bool) :=
  some x55
noncomputable def F_retraceref20_fits_J5 (p1 : T_retraceref20_Is) (y2 : Int) (x52 : Bool) : Option (Bool) :=
  cond x52 (cond ((w64 (p1.N - y2)) == 0) (F_retraceref20_fits_J6 (!p1.Choose)) (F_retraceref20_fits_J6 false)) (some true)
noncomputable def F_retraceref20_fits_J1 (p0 : T_api_Ins) (p1 : T_retraceref20_Is) (y2 : Int) (x16 : Bool) : Option (Bool) :=
  cond x16 (cond (p1.N == 0) (F_retraceref20_fits_J2 (!p1.Choose)) (F_retraceref20_fits_J2 false)) (cond (p0.Op == 23) (cond (p1.N == 0) (F_retraceref20_fits_J3 p1.Choose) (F_retraceref20_fits_J3 false)) ((F_retraceref20_Chooses p0.Op).bind fun y36 => cond y36 (cond ((w64 (p1.N - y2)) == 0) (F_retraceref20_fits_J4 p1.Choose) (F_retraceref20_fits_J4 false)) ((F_retraceref20_Acts p0.Op).bind fun y57 => cond y57 (F_retraceref20_fits_J5 p1 y2 true) (F_retraceref20_fits_J5 p1 y2 (p0.Op == 18)))))
noncomputable def F_retraceref20_fits (p0 : T_api_Ins) (p1 : T_retraceref20_Is) : Option (Bool) :=
  (F_retraceref16_Takes p0).bind fun y2 => cond (decide ((w64 (p1.N - y2)) < 0)) (some false) (cond (p0.Op == 1) (F_retraceref20_fits_J1 p0 p1 y2 true) (cond (p0.Op == 24) (F_retraceref20_fits_J1 p0 p1 y2 true) (F_retraceref20_fits_J1 p0 p1 y2 (p0.Op == 25))))
/- retraceref16_Gives -/
noncomputable def F_retraceref16_Gives_J1 (x18 : Bool) : Option (Int) :=
  cond x18 (some 1) (some 0)
noncomputable def F_retraceref16_Gives (p0 : T_api_Ins) : Option (Int) :=
  (F_retraceref16_Right p0).bind fun y20 => cond y20 (cond (p0.Op == 2) (F_retraceref16_Gives_J1 true) (cond (p0.Op == 3) (F_retraceref16_Gives_J1 true) (cond (p0.Op == 5) (F_retraceref16_Gives_J1 true) (F_retraceref16_Gives_J1 (p0.Op == 9))))) (F_retraceref16_Gives_J1 false)
/- retraceref20_meets -/
noncomputable def F_retraceref20_meets (p1 : Int) (p2 : Int) (p3 : T_retraceref20_Is) (o0 : (List T_retraceref20_Is)) : Option (((List T_retraceref20_Is) × Bool) ⊕ ((List T_retraceref20_Is) × Bool)) :=
  cond (decide (p2 ≤ p1)) (some (.inl (o0, ((p3.Come == true) && ((p3.N == 0) && ((p3.Choose == false) && true)))))) ((lAt o0 p2).bind fun y9 => cond y9.Come ((lAt o0 p2).bind fun y12 => some (.inl (o0, ((y12.Come == p3.Come) && ((y12.N == p3.N) && ((y12.Choose == p3.Choose) && true)))))) (grd (((([] : List T_retraceref20_Is)).length + (o0).length) * 24 ≤ 140737488355328) <| (lAt (([] : List T_retraceref20_Is) ++ o0) p2).bind fun y16 => some (.inr ((List.set (([] : List T_retraceref20_Is) ++ o0) (Int.toNat p2) p3), true))))
/- retraceref20_Flow -/
noncomputable def F_retraceref20_Flow_J1 (x228 : Int) (x337 : (List T_retraceref20_Is)) : Option ((Int × (List T_retraceref20_Is)) ⊕ ((List T_retraceref20_Is) × Int)) :=
  some (.inl ((w64 (x228 + 1)), x337))
noncomputable def F_retraceref20_Flow_J5 (x228 : Int) (x405 : Bool) (x406 : (List T_retraceref20_Is)) : Option ((Int × (List T_retraceref20_Is)) ⊕ ((List T_retraceref20_Is) × Int)) :=
  cond (!x405) ((some (x406, x228)).map Sum.inr) (F_retraceref20_Flow_J1 x228 x406)
noncomputable def F_retraceref20_Flow_J6 (x228 : Int) (x372 : Int) (x373 : Bool) (x388 : Bool) (x389 : (List T_retraceref20_Is)) (x413 : Bool) : Option ((Int × (List T_retraceref20_Is)) ⊕ ((List T_retraceref20_Is) × Int)) :=
  cond x413 ((F_retraceref20_meets x228 (w64 (x228 + 1)) (⟨true, x372, x373⟩ : T_retraceref20_Is) x389).bind fun y415 => (Sum.elim (fun y416 => F_retraceref20_Flow_J5 x228 y416.2 y416.1) (fun y417 => F_retraceref20_Flow_J5 x228 y417.2 y417.1)) y415) (F_retraceref20_Flow_J5 x228 x388 x389)
noncomputable def F_retraceref20_Flow_J4 (x228 : Int) (y354 : T_api_Ins) (x372 : Int) (x373 : Bool) (x388 : Bool) (x389 : (List T_retraceref20_Is)) : Option ((Int × (List T_retraceref20_Is)) ⊕ ((List T_retraceref20_Is) × Int)) :=
  cond (!x388) ((some (x389, x228)).map Sum.inr) (cond (y354.Op != 6) (cond (y354.Op != 18) (cond (y354.Op != 23) (F_retraceref20_Flow_J6 x228 x372 x373 x388 x389 (y354.Op != 24)) (F_retraceref20_Flow_J6 x228 x372 x373 x388 x389 false)) (F_retraceref20_Flow_J6 x228 x372 x373 x388 x389 false)) (F_retraceref20_Flow_J6 x228 x372 x373 x388 x389 false))
noncomputable def F_retraceref20_Flow_J7 (x228 : Int) (x229 : (List T_retraceref20_Is)) (y352 : T_retraceref20_Is) (y354 : T_api_Ins) (x372 : Int) (x373 : Bool) (y422 : Int × Bool) (x427 : Int) (x428 : Bool) : Option ((Int × (List T_retraceref20_Is)) ⊕ ((List T_retraceref20_Is) × Int)) :=
  (F_retraceref20_meets x228 y422.1 (⟨true, x427, x428⟩ : T_retraceref20_Is) (List.set x229 (Int.toNat x228) (⟨true, y352.N, y352.Choose⟩ : T_retraceref20_Is))).bind fun y429 => (Sum.elim (fun y430 => F_retraceref20_Flow_J4 x228 y354 x372 x373 y430.2 y430.1) (fun y431 => F_retraceref20_Flow_J4 x228 y354 x372 x373 y431.2 y431.1)) y429
noncomputable def F_retraceref20_Flow_J3 (x228 : Int) (x229 : (List T_retraceref20_Is)) (y352 : T_retraceref20_Is) (y354 : T_api_Ins) (x372 : Int) (x373 : Bool) : Option ((Int × (List T_retraceref20_Is)) ⊕ ((List T_retraceref20_Is) × Int)) :=
  (F_retraceref20_target y354).bind fun y422 => cond y422.2 ((F_retraceref20_Chooses y354.Op).bind fun y433 => cond y433 (F_retraceref20_Flow_J7 x228 x229 y352 y354 x372 x373 y422 0 false) (F_retraceref20_Flow_J7 x228 x229 y352 y354 x372 x373 y422 x372 x373)) (F_retraceref20_Flow_J4 x228 y354 x372 x373 true (List.set x229 (Int.toNat x228) (⟨true, y352.N, y352.Choose⟩ : T_retraceref20_Is)))
noncomputable def F_retraceref20_Flow_J2 (p0 : T_api_Code) (x228 : Int) (x229 : (List T_retraceref20_Is)) (x349 : Bool) : Option ((Int × (List T_retraceref20_Is)) ⊕ ((List T_retraceref20_Is) × Int)) :=
  cond x349 (F_retraceref20_Flow_J1 x228 x229) ((lAt x229 x228).bind fun y352 => (lAt p0.Ins x228).bind fun y354 => (lAt (List.set x229 (Int.toNat x228) (⟨true, y352.N, y352.Choose⟩ : T_retraceref20_Is)) x228).bind fun y362 => (F_retraceref20_fits y354 y362).bind fun y363 => cond (!y363) ((some ((List.set x229 (Int.toNat x228) (⟨true, y352.N, y352.Choose⟩ : T_retraceref20_Is)), x228)).map Sum.inr) ((lAt (List.set x229 (Int.toNat x228) (⟨true, y352.N, y352.Choose⟩ : T_retraceref20_Is)) x228).bind fun y435 => (F_retraceref16_Takes y354).bind fun y436 => (F_retraceref16_Gives y354).bind fun y437 => (lAt (List.set x229 (Int.toNat x228) (⟨true, y352.N, y352.Choose⟩ : T_retraceref20_Is)) x228).bind fun y438 => cond y438.Choose (F_retraceref20_Flow_J3 x228 x229 y352 y354 (w64 ((w64 (y435.N - y436)) + y437)) true) (F_retraceref20_Flow_J3 x228 x229 y352 y354 (w64 ((w64 (y435.N - y436)) + y437)) (y354.Op == 25))))
noncomputable def F_retraceref20_Flow_L8 (p0 : T_api_Code) (p1 : Int) (x228 : Int) (x229 : (List T_retraceref20_Is)) : Option ((Int × (List T_retraceref20_Is)) ⊕ ((List T_retraceref20_Is) × Int)) :=
  (F_retraceref20_To p0 p1).bind fun y236 => cond (decide (x228 < y236)) ((lAt x229 x228).bind fun y440 => cond (!y440.Come) ((lAt p0.Ins x228).bind fun y442 => F_retraceref20_Flow_J2 p0 x228 x229 (y442.Op != 1)) (F_retraceref20_Flow_J2 p0 x228 x229 false)) ((some (x229, (-1))).map Sum.inr)
noncomputable def F_retraceref20_Flow (p0 : T_api_Code) (p1 : Int) : Option ((List T_retraceref20_Is) × Int) :=
  grd ((0 : Int) ≤ (w64 (((p0.Ins).length : Int) + 1)) ∧ (w64 (((p0.Ins).length : Int) + 1)) ≤ (w64 (((p0.Ins).length : Int) + 1)) ∧ (w64 (((p0.Ins).length : Int) + 1)) ≤ 281474976710656 ∧ (24 : Int) * (w64 (((p0.Ins).length : Int) + 1)) ≤ 281474976710656) <| (lAt p0.Defs p1).bind fun y5 => (lAt (List.replicate (Int.toNat (w64 (((p0.Ins).length : Int) + 1))) (⟨false, 0, false⟩ : T_retraceref20_Is)) y5.Entry).bind fun y6 => (lAt p0.Defs p1).bind fun y227 => Loop (fun s : (Int × (List T_retraceref20_Is)) => F_retraceref20_Flow_L8 p0 p1 s.1 s.2) (y227.Entry, (List.set (List.replicate (Int.toNat (w64 (((p0.Ins).length : Int) + 1))) (⟨false, 0, false⟩ : T_retraceref20_Is)) (Int.toNat y5.Entry) (⟨true, y6.N, y6.Choose⟩ : T_retraceref20_Is)))
/- retraceref20_Check -/
noncomputable def F_retraceref20_Check_J1 (x160 : Int) (x182 : Int) : Option ((Int × Int) ⊕ ((Int × Int) ⊕ ((List Int)))) :=
  some (.inl (x182, (w64 (x160 + 1))))
noncomputable def F_retraceref20_Check_L2 (p0 : T_api_Code) (x109 : Int) (x159 : Int) (x160 : Int) : Option ((Int × Int) ⊕ ((Int × Int) ⊕ ((List Int)))) :=
  (F_retraceref20_To p0 x109).bind fun y167 => cond (decide (x160 < y167)) ((F_retraceref20_may p0 x109 x160 x159).bind fun y189 => cond (!y189) (grd ((([x160, 15] : List Int)).length = 2 ∧ ((List.replicate 2 (0 : Int))).length = 2) <| ((grd ((([x160, 15] : List Int)).length = 2) <| some ([x160, 15] : List Int)).map Sum.inr).map Sum.inr) ((lAt p0.Ins x160).bind fun y199 => cond (y199.Op == 1) (F_retraceref20_Check_J1 x160 (w64 (x159 + 1))) (F_retraceref20_Check_J1 x160 x159))) ((some (.inl (x159, (w64 (x109 + 1))))).map Sum.inr)
noncomputable def F_retraceref20_Check_L3 (p0 : T_api_Code) (x231 : Int) : Option ((Int) ⊕ ((List Int))) :=
  cond (decide (x231 < ((p0.Defs).length : Int))) ((F_retraceref20_Flow p0 x231).bind fun y242 => cond (decide (0 ≤ y242.2)) (grd ((([y242.2, 14] : List Int)).length = 2 ∧ ((List.replicate 2 (0 : Int))).length = 2) <| (grd ((([y242.2, 14] : List Int)).length = 2) <| some ([y242.2, 14] : List Int)).map Sum.inr) (some (.inl (w64 (x231 + 1))))) ((grd ((([0, 0] : List Int)).length = 2 ∧ ((List.replicate 2 (0 : Int))).length = 2) <| grd ((([0, 0] : List Int)).length = 2) <| some ([0, 0] : List Int)).map Sum.inr)
noncomputable def F_retraceref20_Check_L4 (p0 : T_api_Code) (x108 : Int) (x109 : Int) : Option ((Int × Int) ⊕ ((List Int))) :=
  cond (decide (x109 < ((p0.Defs).length : Int))) ((lAt p0.Defs x109).bind fun y158 => Loop (fun s : (Int × Int) => F_retraceref20_Check_L2 p0 x109 s.1 s.2) (x108, y158.Entry)) ((cond (x108 != p0.Stmts) (grd ((([0, 3] : List Int)).length = 2 ∧ ((List.replicate 2 (0 : Int))).length = 2) <| grd ((([0, 3] : List Int)).length = 2) <| some ([0, 3] : List Int)) (Loop (fun s : (Int) => F_retraceref20_Check_L3 p0 s) 0)).map Sum.inr)
noncomputable def F_retraceref20_Check (p0 : T_api_Code) : Option ((List Int)) :=
  (F_retraceref20_tables p0).bind fun y7 => cond (!y7) (grd ((([0, 3] : List Int)).length = 2 ∧ ((List.replicate 2 (0 : Int))).length = 2) <| grd ((([0, 3] : List Int)).length = 2) <| some ([0, 3] : List Int)) (Loop (fun s : (Int × Int) => F_retraceref20_Check_L4 p0 s.1 s.2) (0, 0))
/- retraceref20_Right -/
noncomputable def F_retraceref20_Right (p0 : T_api_Code) : Option (Bool) :=
  (F_retraceref20_Check p0).bind fun y3 => grd ((y3).length = 2 ∧ (([0, 0] : List Int)).length = 2) <| some (y3 == ([0, 0] : List Int))
/- retraceref19_Text -/
noncomputable def F_retraceref19_Text (p0 : ByteArray) : Option (T_retraceref19_Got) :=
  cond (sEq p0 ⟨#[109, 97, 105, 110, 32, 123, 32, 125]⟩) (some ⟨⟨[⟨24, 0, 0⟩], [⟨⟨#[109, 97, 105, 110]⟩, 0, 0, 0⟩], [], 0, 0⟩, 0, 0⟩) none
/- proc_within -/
noncomputable def F_proc_within_J1 (x2 : Bool) : Option (Bool) :=
  some x2
noncomputable def F_proc_within (p0 : Int) (p1 : Int) : Option (Bool) :=
  cond (decide (0 ≤ p0)) (F_proc_within_J1 (decide (p0 ≤ p1))) (F_proc_within_J1 false)
/- slices_Clone_int_int -/
noncomputable def F_slices_Clone_int_int (p0 : (List Int)) : Option ((List Int)) :=
  grd (((([] : List Int)).length + (p0).length) * 8 ≤ 140737488355328) <| some (([] : List Int) ++ p0)
/- code_Settle -/
noncomputable def F_code_Settle_J1 (p0 : T_api_Code) (x45 : Int) (x46 : Int) (x79 : Bool) : Option ((Int × Int) ⊕ (Int)) :=
  cond x79 ((some x45).map Sum.inr) ((lAt p0.Ins x45).bind fun y83 => some (.inl (y83.A, (w64 (x46 + 1)))))
noncomputable def F_code_Settle_L2 (p0 : T_api_Code) (p1 : Int) (x45 : Int) (x46 : Int) : Option ((Int × Int) ⊕ (Int)) :=
  cond (decide (x46 < (w64 (((p0.Ins).length : Int) + 1)))) (cond (decide (x45 < 0)) (F_code_Settle_J1 p0 x45 x46 true) (cond (decide (((p0.Ins).length : Int) ≤ x45)) (F_code_Settle_J1 p0 x45 x46 true) ((lAt p0.Ins x45).bind fun y86 => F_code_Settle_J1 p0 x45 x46 (y86.Op != 6)))) ((some p1).map Sum.inr)
noncomputable def F_code_Settle (p0 : T_api_Code) (p1 : Int) : Option (Int) :=
  Loop (fun s : (Int × Int) => F_code_Settle_L2 p0 p1 s.1 s.2) (p1, 0)
/- proc_Goes -/
noncomputable def F_proc_Goes_J1 (p1 : T_api_Proc) (y4 : (List Int)) (x13 : Int) (x14 : Int) : Option (T_api_Proc) :=
  some (⟨p1.Def, x13, y4, p1.Fuel, x14, 0, 0, 0, 0, 0, ([] : List T_api_Alt)⟩ : T_api_Proc)
noncomputable def F_proc_Goes_J2 (p1 : T_api_Proc) (y3 : Int) (y4 : (List Int)) (x18 : Bool) : Option (T_api_Proc) :=
  cond x18 (F_proc_Goes_J1 p1 y4 0 5) (F_proc_Goes_J1 p1 y4 y3 0)
noncomputable def F_proc_Goes (p0 : T_api_Code) (p1 : T_api_Proc) (p2 : Int) : Option (T_api_Proc) :=
  (F_code_Settle p0 p2).bind fun y3 => (F_slices_Clone_int_int p1.Vars).bind fun y4 => cond (decide (0 ≤ y3)) (cond (decide (y3 < ((p0.Ins).length : Int))) ((lAt p0.Ins y3).bind fun y22 => F_proc_Goes_J2 p1 y3 y4 (y22.Op == 24)) (F_proc_Goes_J2 p1 y3 y4 false)) (F_proc_Goes_J2 p1 y3 y4 false)
/- proc_New -/
noncomputable def F_proc_New_L2 (p0 : T_api_Code) (p1 : Int) (p3 : Int) (x34 : (List Int)) : Option (((List Int)) ⊕ (T_api_Proc × Int)) :=
  (lAt p0.Defs p1).bind fun y41 => cond (decide (((x34).length : Int) < y41.Vars)) (grd (((x34).length + ([0]).length) * 8 ≤ 140737488355328) <| some (.inl (x34 ++ [0]))) (((lAt p0.Defs p1).bind fun y50 => (F_proc_Goes p0 (⟨p1, 0, x34, p3, 0, 0, 0, 0, 0, 0, ([] : (List T_api_Alt))⟩ : T_api_Proc) y50.Entry).bind fun y51 => some (y51, 0)).map Sum.inr)
noncomputable def F_proc_New_J1 (p0 : T_api_Code) (p1 : Int) (p2 : (List Int)) (p3 : Int) (x18 : Bool) : Option (T_api_Proc × Int) :=
  cond x18 (some ((⟨0, 0, ([] : List Int), 0, 0, 0, 0, 0, 0, 0, ([] : List T_api_Alt)⟩ : T_api_Proc), 1)) ((F_slices_Clone_int_int p2).bind fun y21 => Loop (fun s : ((List Int)) => F_proc_New_L2 p0 p1 p3 s) y21)
noncomputable def F_proc_New (p0 : T_api_Code) (p1 : Int) (p2 : (List Int)) (p3 : Int) : Option (T_api_Proc × Int) :=
  (F_proc_within p1 (w64 (((p0.Defs).length : Int) - 1))).bind fun y52 => cond (!y52) (F_proc_New_J1 p0 p1 p2 p3 true) ((lAt p0.Defs p1).bind fun y54 => cond (((p2).length : Int) != y54.Params) (F_proc_New_J1 p0 p1 p2 p3 true) ((F_proc_within p3 1048576).bind fun y56 => F_proc_New_J1 p0 p1 p2 p3 (!y56)))
/- proc_bare -/
noncomputable def F_proc_bare_J1 (p0 : T_api_Proc) (x5 : Int) (x6 : Int) (x7 : Int) (x8 : Int) (x9 : Int) (x10 : (List T_api_Alt)) : Option (T_api_Proc) :=
  some (⟨p0.Def, p0.At, p0.Vars, p0.Fuel, p0.Mode, x5, x6, x7, x8, x9, x10⟩ : T_api_Proc)
noncomputable def F_proc_bare (p0 : T_api_Proc) : Option (T_api_Proc) :=
  cond (p0.Mode == 1) (F_proc_bare_J1 p0 p0.Chan p0.Val 0 0 p0.Since ([] : List T_api_Alt)) (cond (p0.Mode == 2) (F_proc_bare_J1 p0 p0.Chan 0 p0.Slot 0 p0.Since ([] : List T_api_Alt)) (cond (p0.Mode == 3) (F_proc_bare_J1 p0 0 0 0 0 p0.Since p0.Alts) (cond (p0.Mode == 4) (F_proc_bare_J1 p0 0 0 0 p0.Until 0 ([] : List T_api_Alt)) (F_proc_bare_J1 p0 0 0 0 0 0 ([] : List T_api_Alt)))))
/- slices_Equal_int_int -/
noncomputable def F_slices_Equal_int_int_L1 (p0 : (List Int)) (p1 : (List Int)) (x22 : Int) : Option ((Int) ⊕ (Bool)) :=
  cond (decide (x22 < ((p0).length : Int))) ((lAt p0 x22).bind fun y34 => (lAt p1 x22).bind fun y35 => cond (y34 != y35) ((some false).map Sum.inr) (some (.inl (w64 (x22 + 1))))) ((some true).map Sum.inr)
noncomputable def F_slices_Equal_int_int (p0 : (List Int)) (p1 : (List Int)) : Option (Bool) :=
  cond (((p0).length : Int) != ((p1).length : Int)) (some false) (Loop (fun s : (Int) => F_slices_Equal_int_int_L1 p0 p1 s) 0)
/- slices_Equal_retrace_api_Alt_retrace_api_Alt -/
noncomputable def F_slices_Equal_retrace_api_Alt_retrace_api_Alt_L1 (p0 : (List T_api_Alt)) (p1 : (List T_api_Alt)) (x22 : Int) : Option ((Int) ⊕ (Bool)) :=
  cond (decide (x22 < ((p0).length : Int))) ((lAt p0 x22).bind fun y34 => (lAt p1 x22).bind fun y35 => cond (!((y34.Kind == y35.Kind) && ((y34.Chan == y35.Chan) && ((y34.Val == y35.Val) && ((y34.Slot == y35.Slot) && ((y34.Goto == y35.Goto) && true)))))) ((some false).map Sum.inr) (some (.inl (w64 (x22 + 1))))) ((some true).map Sum.inr)
noncomputable def F_slices_Equal_retrace_api_Alt_retrace_api_Alt (p0 : (List T_api_Alt)) (p1 : (List T_api_Alt)) : Option (Bool) :=
  cond (((p0).length : Int) != ((p1).length : Int)) (some false) (Loop (fun s : (Int) => F_slices_Equal_retrace_api_Alt_retrace_api_Alt_L1 p0 p1 s) 0)
/- proc_Same -/
noncomputable def F_proc_Same_J1 (x13 : Bool) : Option (Bool) :=
  some x13
noncomputable def F_proc_Same (p0 : T_api_Proc) (p1 : T_api_Proc) : Option (Bool) :=
  cond (p0.Def == p1.Def) (cond (p0.At == p1.At) ((F_slices_Equal_int_int p0.Vars p1.Vars).bind fun y16 => cond y16 (cond (p0.Fuel == p1.Fuel) (cond (p0.Mode == p1.Mode) (cond (p0.Chan == p1.Chan) (cond (p0.Val == p1.Val) (cond (p0.Slot == p1.Slot) (cond (p0.Until == p1.Until) (cond (p0.Since == p1.Since) ((F_slices_Equal_retrace_api_Alt_retrace_api_Alt p0.Alts p1.Alts).bind fun y25 => F_proc_Same_J1 y25) (F_proc_Same_J1 false)) (F_proc_Same_J1 false)) (F_proc_Same_J1 false)) (F_proc_Same_J1 false)) (F_proc_Same_J1 false)) (F_proc_Same_J1 false)) (F_proc_Same_J1 false)) (F_proc_Same_J1 false)) (F_proc_Same_J1 false)) (F_proc_Same_J1 false)
/- proc_looks -/
noncomputable def F_proc_looks (p0 : T_api_Code) (p1 : T_api_Proc) : Option (T_api_Code × T_api_Proc) :=
  some (p0, p1)
/- slices_Backward_retrace_api_Def_retrace_api_Def -/
noncomputable def F_slices_Backward_retrace_api_Def_retrace_api_Def (p0 : (List T_api_Def)) : Option ((List T_api_Def)) :=
  some p0
/- R_code_Routine_0 -/
noncomputable def F_R_code_Routine_0 (p0 : Int) (p1 : T_api_Def) (o1_0 : Int) (o2_0 : Int) : Option ((Int) ⊕ (Unit)) :=
  cond (decide (p1.Entry ≤ o1_0)) (some (.inl p0)) (some (.inr ()))
/- slices_Backward_retrace_api_Def_retrace_api_Def_1 -/
noncomputable def F_slices_Backward_retrace_api_Def_retrace_api_Def_1_J1 (x19 : Int) : Option ((Int) ⊕ ((Int) ⊕ (Unit))) :=
  (some (.inl x19)).map Sum.inr
noncomputable def F_slices_Backward_retrace_api_Def_retrace_api_Def_1_J2 (x1 : Int) : Option ((Int) ⊕ ((Int) ⊕ (Unit))) :=
  some (.inl (w64 (x1 - 1)))
noncomputable def F_slices_Backward_retrace_api_Def_retrace_api_Def_1_L3 (o1_0 : Int) (o2_0 : Int) (o3_0 : (List T_api_Def)) (x1 : Int) : Option ((Int) ⊕ ((Int) ⊕ (Unit))) :=
  cond (decide (0 ≤ x1)) ((lAt o3_0 x1).bind fun y22 => (F_R_code_Routine_0 x1 y22 o1_0 o2_0).bind fun y23 => (Sum.elim (fun y24 => F_slices_Backward_retrace_api_Def_retrace_api_Def_1_J1 y24) (fun y25 => F_slices_Backward_retrace_api_Def_retrace_api_Def_1_J2 x1)) y23) ((some (.inr ())).map Sum.inr)
noncomputable def F_slices_Backward_retrace_api_Def_retrace_api_Def_1 (o1_0 : Int) (o2_0 : Int) (o3_0 : (List T_api_Def)) : Option ((Int) ⊕ (Unit)) :=
  Loop (fun s : (Int) => F_slices_Backward_retrace_api_Def_retrace_api_Def_1_L3 o1_0 o2_0 o3_0 s) (w64 (((o3_0).length : Int) - 1))
/- code_Routine -/
noncomputable def F_code_Routine_J1 (p0 : T_api_Code) (p1 : Int) (x6 : Bool) : Option (Int) :=
  cond x6 (some (-1)) ((F_slices_Backward_retrace_api_Def_retrace_api_Def p0.Defs).bind fun y14 => (F_slices_Backward_retrace_api_Def_retrace_api_Def_1 p1 0 y14).bind fun y15 => (Sum.elim (fun y16 => some y16) (fun y17 => some (-1))) y15)
noncomputable def F_code_Routine (p0 : T_api_Code) (p1 : Int) : Option (Int) :=
  cond (decide (p1 < 0)) (F_code_Routine_J1 p0 p1 true) (F_code_Routine_J1 p0 p1 (decide (((p0.Ins).length : Int) ≤ p1)))
/- proc_op -/
noncomputable def F_proc_op_J1 (p0 : T_api_Code) (p2 : Int) (x12 : Bool) : Option (Int) :=
  cond x12 (some 0) ((lAt p0.Ins p2).bind fun y15 => some y15.Op)
noncomputable def F_proc_op (p0 : T_api_Code) (p1 : T_api_Proc) (p2 : Int) : Option (Int) :=
  cond (decide (p2 < 0)) (F_proc_op_J1 p0 p2 true) (cond (decide (((p0.Ins).length : Int) ≤ p2)) (F_proc_op_J1 p0 p2 true) ((F_code_Routine p0 p2).bind fun y18 => F_proc_op_J1 p0 p2 (y18 != p1.Def)))
/- proc_looks_1 -/
noncomputable def F_proc_looks_1 (o0 : T_api_Code) (o1 : T_api_Proc) : Option (Bool) :=
  (F_proc_op o0 o1 o1.At).bind fun y2 => some (y2 == 1)
/- proc_looks_2 -/
noncomputable def F_proc_looks_2_J1 (x4 : Bool) : Option (Bool) :=
  some x4
noncomputable def F_proc_looks_2 (p0 : Int) (o0 : T_api_Code) (o1 : T_api_Proc) : Option (Bool) :=
  (F_proc_op o0 o1 p0).bind fun y2 => cond (y2 == 1) (F_proc_looks_2_J1 true) (F_proc_looks_2_J1 (y2 == 24))
/- proc_Chans -/
noncomputable def F_proc_Chans_L1 (p0 : T_api_Code) (x13 : Int) (x14 : Int) : Option ((Int × Int) ⊕ (Int)) :=
  cond (decide (x14 < ((p0.Chans).length : Int))) ((lAt p0.Chans x14).bind fun y22 => some (.inl ((w64 (x13 + (if 1 > y22.Size then 1 else y22.Size))), (w64 (x14 + 1))))) ((some x13).map Sum.inr)
noncomputable def F_proc_Chans (p0 : T_api_Code) : Option (Int) :=
  Loop (fun s : (Int × Int) => F_proc_Chans_L1 p0 s.1 s.2) (0, 0)
/- proc_looks_3 -/
noncomputable def F_proc_looks_3 (p0 : Int) (o0 : T_api_Code) : Option (Bool) :=
  (F_proc_Chans o0).bind fun y3 => (F_proc_within p0 (w64 (y3 - 1))).bind fun y4 => some y4
/- proc_looks_6 -/
noncomputable def F_proc_looks_6_J1 (x4 : Bool) : Option (Bool) :=
  some x4
noncomputable def F_proc_looks_6 (o1 : T_api_Code) (o2 : T_api_Proc) : Option (Bool) :=
  (F_proc_looks_2 o2.At o1 o2).bind fun y5 => cond y5 ((F_proc_looks_3 o2.Chan o1).bind fun y7 => F_proc_looks_6_J1 y7) (F_proc_looks_6_J1 false)
/- proc_looks_4 -/
noncomputable def F_proc_looks_4 (p0 : Int) (o0 : T_api_Proc) : Option (Bool) :=
  (F_proc_within p0 (w64 (((o0.Vars).length : Int) - 1))).bind fun y2 => some y2
/- proc_looks_7 -/
noncomputable def F_proc_looks_7_J1 (x6 : Bool) : Option (Bool) :=
  some x6
noncomputable def F_proc_looks_7 (o1 : T_api_Code) (o2 : T_api_Proc) : Option (Bool) :=
  (F_proc_looks_2 o2.At o1 o2).bind fun y7 => cond y7 ((F_proc_looks_3 o2.Chan o1).bind fun y9 => cond y9 ((F_proc_looks_4 o2.Slot o2).bind fun y11 => F_proc_looks_7_J1 y11) (F_proc_looks_7_J1 false)) (F_proc_looks_7_J1 false)
/- proc_looks_5 -/
noncomputable def F_proc_looks_5_J2 (x19 : Bool) : Option (Bool) :=
  some x19
noncomputable def F_proc_looks_5_J1 (p0 : T_api_Alt) (x14 : Bool) (x15 : Int) (x16 : Int) (x17 : Int) : Option (Bool) :=
  cond x14 (F_proc_looks_5_J2 ((p0.Kind == p0.Kind) && ((x15 == p0.Chan) && ((x16 == p0.Val) && ((x17 == p0.Slot) && ((p0.Goto == p0.Goto) && true)))))) (F_proc_looks_5_J2 false)
noncomputable def F_proc_looks_5 (p0 : T_api_Alt) (o1 : T_api_Code) (o2 : T_api_Proc) : Option (Bool) :=
  (F_proc_looks_2 p0.Goto o1 o2).bind fun y2 => cond (p0.Kind == 1) (cond y2 ((F_proc_looks_3 p0.Chan o1).bind fun y23 => cond y23 ((F_proc_looks_4 p0.Slot o2).bind fun y25 => F_proc_looks_5_J1 p0 y25 p0.Chan 0 p0.Slot) (F_proc_looks_5_J1 p0 false p0.Chan 0 p0.Slot)) (F_proc_looks_5_J1 p0 false p0.Chan 0 p0.Slot)) (cond (p0.Kind == 2) (cond y2 ((F_proc_looks_3 p0.Chan o1).bind fun y28 => F_proc_looks_5_J1 p0 y28 p0.Chan p0.Val 0) (F_proc_looks_5_J1 p0 false p0.Chan p0.Val 0)) (cond (p0.Kind == 3) (cond y2 ((F_proc_within p0.Val 1099511627776).bind fun y31 => F_proc_looks_5_J1 p0 y31 0 p0.Val 0) (F_proc_looks_5_J1 p0 false 0 p0.Val 0)) (some false)))
/- proc_looks_8_1 -/
noncomputable def F_proc_looks_8_1 (p0 : T_api_Alt) (o2 : T_api_Code) (o3 : T_api_Proc) : Option (Bool) :=
  (F_proc_looks_5 p0 o2 o3).bind fun y2 => some (!y2)
/- slices_IndexFunc_retrace_api_Alt_retrace_api_Alt -/
noncomputable def F_slices_IndexFunc_retrace_api_Alt_retrace_api_Alt_L1 (p0 : (List T_api_Alt)) (o2 : T_api_Code) (o3 : T_api_Proc) (x20 : Int) : Option ((Int) ⊕ (Int)) :=
  cond (decide (x20 < ((p0).length : Int))) ((lAt p0 x20).bind fun y32 => (F_proc_looks_8_1 y32 o2 o3).bind fun y33 => cond y33 ((some x20).map Sum.inr) (some (.inl (w64 (x20 + 1))))) ((some (-1)).map Sum.inr)
noncomputable def F_slices_IndexFunc_retrace_api_Alt_retrace_api_Alt (p0 : (List T_api_Alt)) (o2 : T_api_Code) (o3 : T_api_Proc) : Option (Int) :=
  Loop (fun s : (Int) => F_slices_IndexFunc_retrace_api_Alt_retrace_api_Alt_L1 p0 o2 o3 s) 0
/- slices_ContainsFunc_retrace_api_Alt_retrace_api_Alt -/
noncomputable def F_slices_ContainsFunc_retrace_api_Alt_retrace_api_Alt (p0 : (List T_api_Alt)) (o2 : T_api_Code) (o3 : T_api_Proc) : Option (Bool) :=
  (F_slices_IndexFunc_retrace_api_Alt_retrace_api_Alt p0 o2 o3).bind fun y2 => some (decide (0 ≤ y2))
/- proc_looks_8 -/
noncomputable def F_proc_looks_8_J1 (x4 : Bool) : Option (Bool) :=
  some x4
noncomputable def F_proc_looks_8 (o1 : T_api_Code) (o2 : T_api_Proc) : Option (Bool) :=
  (F_proc_looks_1 o1 o2).bind fun y5 => cond y5 ((F_slices_ContainsFunc_retrace_api_Alt_retrace_api_Alt o2.Alts o1 o2).bind fun y7 => F_proc_looks_8_J1 (!y7)) (F_proc_looks_8_J1 false)
/- proc_looks_9 -/
noncomputable def F_proc_looks_9_J1 (x4 : Bool) : Option (Bool) :=
  some x4
noncomputable def F_proc_looks_9 (o1 : T_api_Code) (o2 : T_api_Proc) : Option (Bool) :=
  (F_proc_looks_2 o2.At o1 o2).bind fun y5 => cond y5 ((F_proc_within o2.Until 1099511627776).bind fun y7 => F_proc_looks_9_J1 y7) (F_proc_looks_9_J1 false)
/- proc_looks_10 -/
noncomputable def F_proc_looks_10 (o0 : T_api_Proc) : Option (Bool) :=
  some (o0.At == 0)
/- proc_Check -/
noncomputable def F_proc_Check_J2 (x74 : Bool) : Option (Int) :=
  cond x74 (some 9) (some 0)
noncomputable def F_proc_Check_J1 (p0 : T_api_Code) (p1 : T_api_Proc) (x8 : Bool) : Option (Int) :=
  cond (!x8) (F_proc_Check_J2 true) ((lAt p0.Defs p1.Def).bind fun y77 => cond (((p1.Vars).length : Int) != y77.Vars) (F_proc_Check_J2 true) ((F_proc_bare p1).bind fun y79 => (F_proc_Same y79 p1).bind fun y80 => cond (!y80) (F_proc_Check_J2 true) ((F_proc_looks p0 p1).bind fun y82 => cond (p1.Mode == 0) ((F_proc_looks_1 y82.1 y82.2).bind fun y84 => F_proc_Check_J2 (!y84)) (cond (p1.Mode == 1) ((F_proc_looks_6 y82.1 y82.2).bind fun y86 => F_proc_Check_J2 (!y86)) (cond (p1.Mode == 2) ((F_proc_looks_7 y82.1 y82.2).bind fun y88 => F_proc_Check_J2 (!y88)) (cond (p1.Mode == 3) ((F_proc_looks_8 y82.1 y82.2).bind fun y90 => F_proc_Check_J2 (!y90)) (cond (p1.Mode == 4) ((F_proc_looks_9 y82.1 y82.2).bind fun y92 => F_proc_Check_J2 (!y92)) (cond (p1.Mode == 5) ((F_proc_looks_10 y82.2).bind fun y94 => F_proc_Check_J2 (!y94)) (cond (p1.Mode == 6) ((F_proc_looks_1 y82.1 y82.2).bind fun y96 => F_proc_Check_J2 (!y96)) (none))))))))))
noncomputable def F_proc_Check (p0 : T_api_Code) (p1 : T_api_Proc) : Option (Int) :=
  (F_proc_within p1.Def (w64 (((p0.Defs).length : Int) - 1))).bind fun y97 => cond y97 ((F_proc_within p1.Fuel 1048576).bind fun y99 => cond y99 ((F_proc_within p1.Since 1099511627776).bind fun y101 => cond y101 ((F_proc_within p1.Mode 6).bind fun y103 => F_proc_Check_J1 p0 p1 y103) (F_proc_Check_J1 p0 p1 false)) (F_proc_Check_J1 p0 p1 false)) (F_proc_Check_J1 p0 p1 false)
/- retracelaw22_live -/
noncomputable def F_retracelaw22_live_J1 (x11 : Bool) : Option (Bool) :=
  some x11
noncomputable def F_retracelaw22_live  : Option (Bool) :=
  (F_retraceref19_Text (⟨#[109, 97, 105, 110, 32, 123, 32, 125]⟩ : ByteArray)).bind fun y2 => (F_proc_New y2.C 0 ([] : List Int) 5).bind fun y4 => cond (y4.2 == 0) (cond (y4.1.Mode == 5) (cond (y4.1.Fuel == 5) ((F_proc_Check y2.C y4.1).bind fun y15 => cond (y15 == 0) ((F_proc_Same y4.1 y4.1).bind fun y17 => F_retracelaw22_live_J1 y17) (F_retracelaw22_live_J1 false)) (F_retracelaw22_live_J1 false)) (F_retracelaw22_live_J1 false)) (F_retracelaw22_live_J1 false)
/- retraceref22_from -/
noncomputable def F_retraceref22_from_J1 (x2 : Bool) : Option (Bool) :=
  some x2
noncomputable def F_retraceref22_from (p0 : Int) (p1 : Int) : Option (Bool) :=
  cond (decide (0 ≤ p0)) (F_retraceref22_from_J1 (decide (p0 < p1))) (F_retraceref22_from_J1 false)
/- retraceref20_Routine -/
noncomputable def F_retraceref20_Routine_J2 (x27 : Int) (x43 : Int) : Option ((Int × Int) ⊕ (Int)) :=
  some (.inl (x43, (w64 (x27 + 1))))
noncomputable def F_retraceref20_Routine_J1 (p0 : T_api_Code) (p1 : Int) (x26 : Int) (x27 : Int) (x38 : Bool) : Option ((Int × Int) ⊕ (Int)) :=
  cond x38 ((lAt p0.Defs x27).bind fun y45 => cond (decide (y45.Entry ≤ p1)) (F_retraceref20_Routine_J2 x27 x27) (F_retraceref20_Routine_J2 x27 x26)) ((some x26).map Sum.inr)
noncomputable def F_retraceref20_Routine_L3 (p0 : T_api_Code) (p1 : Int) (x26 : Int) (x27 : Int) : Option ((Int × Int) ⊕ (Int)) :=
  cond (decide (x27 < ((p0.Defs).length : Int))) (cond (decide (0 ≤ p1)) (F_retraceref20_Routine_J1 p0 p1 x26 x27 (decide (p1 < ((p0.Ins).length : Int)))) (F_retraceref20_Routine_J1 p0 p1 x26 x27 false)) (F_retraceref20_Routine_J1 p0 p1 x26 x27 false)
noncomputable def F_retraceref20_Routine (p0 : T_api_Code) (p1 : Int) : Option (Int) :=
  Loop (fun s : (Int × Int) => F_retraceref20_Routine_L3 p0 p1 s.1 s.2) ((-1), 0)
/- retraceref22_is -/
noncomputable def F_retraceref22_is_J1 (x5 : Bool) : Option (Bool) :=
  some x5
noncomputable def F_retraceref22_is (p0 : T_api_Code) (p1 : Int) (p2 : Int) (p3 : Int) : Option (Bool) :=
  (F_retraceref20_Routine p0 p2).bind fun y6 => cond (y6 == p1) (cond (decide (0 ≤ p1)) ((lAt p0.Ins p2).bind fun y9 => F_retraceref22_is_J1 (y9.Op == p3)) (F_retraceref22_is_J1 false)) (F_retraceref22_is_J1 false)
/- retraceref22_Rests -/
noncomputable def F_retraceref22_Rests_J1 (x4 : Bool) : Option (Bool) :=
  some x4
noncomputable def F_retraceref22_Rests (p0 : T_api_Code) (p1 : Int) (p2 : Int) : Option (Bool) :=
  (F_retraceref22_is p0 p1 p2 1).bind fun y5 => cond y5 (F_retraceref22_Rests_J1 true) ((F_retraceref22_is p0 p1 p2 24).bind fun y7 => F_retraceref22_Rests_J1 y7)
/- retraceref22_Chans -/
noncomputable def F_retraceref22_Chans_J1 (x19 : Int) (x28 : Int) : Option ((Int × Int) ⊕ (Int)) :=
  some (.inl (x28, (w64 (x19 + 1))))
noncomputable def F_retraceref22_Chans_L2 (p0 : T_api_Code) (x18 : Int) (x19 : Int) : Option ((Int × Int) ⊕ (Int)) :=
  cond (decide (x19 < ((p0.Chans).length : Int))) ((lAt p0.Chans x19).bind fun y30 => cond (decide (0 < y30.Size)) ((lAt p0.Chans x19).bind fun y32 => F_retraceref22_Chans_J1 x19 (w64 (x18 + y32.Size))) (F_retraceref22_Chans_J1 x19 (w64 (x18 + 1)))) ((some x18).map Sum.inr)
noncomputable def F_retraceref22_Chans (p0 : T_api_Code) : Option (Int) :=
  Loop (fun s : (Int × Int) => F_retraceref22_Chans_L2 p0 s.1 s.2) (0, 0)
/- retraceref22_alt -/
noncomputable def F_retraceref22_alt_J1 (x41 : Bool) : Option (Bool) :=
  some x41
noncomputable def F_retraceref22_alt_J2 (x51 : Bool) : Option (Bool) :=
  some x51
noncomputable def F_retraceref22_alt_J3 (x59 : Bool) : Option (Bool) :=
  some x59
noncomputable def F_retraceref22_alt (p0 : T_api_Code) (p1 : T_api_Proc) (p2 : T_api_Alt) : Option (Bool) :=
  (F_retraceref22_Rests p0 p1.Def p2.Goto).bind fun y5 => cond (!y5) (some false) (cond (p2.Kind == 1) ((F_retraceref22_Chans p0).bind fun y42 => (F_retraceref22_from p2.Chan y42).bind fun y43 => cond y43 ((F_retraceref22_from p2.Slot ((p1.Vars).length : Int)).bind fun y45 => cond y45 (F_retraceref22_alt_J1 (p2.Val == 0)) (F_retraceref22_alt_J1 false)) (F_retraceref22_alt_J1 false)) (cond (p2.Kind == 2) ((F_retraceref22_Chans p0).bind fun y52 => (F_retraceref22_from p2.Chan y52).bind fun y53 => cond y53 (F_retraceref22_alt_J2 (p2.Slot == 0)) (F_retraceref22_alt_J2 false)) (cond (p2.Kind == 3) ((F_retraceref22_from p2.Val 1099511627777).bind fun y60 => cond y60 (cond (p2.Chan == 0) (F_retraceref22_alt_J3 (p2.Slot == 0)) (F_retraceref22_alt_J3 false)) (F_retraceref22_alt_J3 false)) (some false))))
/- retraceref22_Is -/
noncomputable def F_retraceref22_Is_J6 (x210 : Bool) : Option (Bool) :=
  some x210
noncomputable def F_retraceref22_Is_J7 (x222 : Bool) : Option (Bool) :=
  some x222
noncomputable def F_retraceref22_Is_J8 (x233 : Bool) : Option (Bool) :=
  some x233
noncomputable def F_retraceref22_Is_L9 (p0 : T_api_Code) (p1 : T_api_Proc) (x258 : Int) : Option ((Int) ⊕ (Bool)) :=
  cond (decide (x258 < ((p1.Alts).length : Int))) ((lAt p1.Alts x258).bind fun y270 => (F_retraceref22_alt p0 p1 y270).bind fun y271 => cond (!y271) ((some false).map Sum.inr) (some (.inl (w64 (x258 + 1))))) (((F_retraceref22_is p0 p1.Def p1.At 1).bind fun y278 => some y278).map Sum.inr)
noncomputable def F_retraceref22_Is_J5 (p0 : T_api_Code) (p1 : T_api_Proc) (x201 : Bool) : Option (Bool) :=
  cond x201 ((F_retraceref22_is p0 p1.Def p1.At 1).bind fun y204 => some y204) (cond (p1.Mode == 1) ((F_retraceref22_Rests p0 p1.Def p1.At).bind fun y211 => cond y211 ((F_retraceref22_Chans p0).bind fun y213 => (F_retraceref22_from p1.Chan y213).bind fun y214 => F_retraceref22_Is_J6 y214) (F_retraceref22_Is_J6 false)) (cond (p1.Mode == 2) ((F_retraceref22_Rests p0 p1.Def p1.At).bind fun y223 => cond y223 ((F_retraceref22_Chans p0).bind fun y225 => (F_retraceref22_from p1.Chan y225).bind fun y226 => cond y226 ((F_retraceref22_from p1.Slot ((p1.Vars).length : Int)).bind fun y228 => F_retraceref22_Is_J7 y228) (F_retraceref22_Is_J7 false)) (F_retraceref22_Is_J7 false)) (cond (p1.Mode == 4) ((F_retraceref22_Rests p0 p1.Def p1.At).bind fun y234 => cond y234 ((F_retraceref22_from p1.Until 1099511627777).bind fun y236 => F_retraceref22_Is_J8 y236) (F_retraceref22_Is_J8 false)) (cond (p1.Mode == 5) (some (p1.At == 0)) (cond (p1.Mode == 3) (Loop (fun s : (Int) => F_retraceref22_Is_L9 p0 p1 s) 0) (some false))))))
noncomputable def F_retraceref22_Is_J4 (p0 : T_api_Code) (p1 : T_api_Proc) (x118 : Bool) : Option (Bool) :=
  cond x118 (some false) (cond (p1.Mode == 0) (F_retraceref22_Is_J5 p0 p1 (p1.Mode == 0)) (F_retraceref22_Is_J5 p0 p1 (p1.Mode == 6)))
noncomputable def F_retraceref22_Is_J3 (p0 : T_api_Code) (p1 : T_api_Proc) (x27 : Bool) (x96 : Bool) : Option (Bool) :=
  cond x96 (some false) (cond (!x27) (cond (p1.Mode != 3) (cond (p1.Since != 0) (F_retraceref22_Is_J4 p0 p1 true) (cond (p1.Mode != 3) (F_retraceref22_Is_J4 p0 p1 (decide (0 < ((p1.Alts).length : Int)))) (F_retraceref22_Is_J4 p0 p1 false))) (cond (p1.Mode != 3) (F_retraceref22_Is_J4 p0 p1 (decide (0 < ((p1.Alts).length : Int)))) (F_retraceref22_Is_J4 p0 p1 false))) (cond (p1.Mode != 3) (F_retraceref22_Is_J4 p0 p1 (decide (0 < ((p1.Alts).length : Int)))) (F_retraceref22_Is_J4 p0 p1 false)))
noncomputable def F_retraceref22_Is_J2 (p0 : T_api_Code) (p1 : T_api_Proc) (x27 : Bool) : Option (Bool) :=
  cond (!x27) (cond (p1.Chan != 0) (F_retraceref22_Is_J3 p0 p1 x27 true) (cond (p1.Mode != 1) (cond (p1.Val != 0) (F_retraceref22_Is_J3 p0 p1 x27 true) (cond (p1.Mode != 2) (cond (p1.Slot != 0) (F_retraceref22_Is_J3 p0 p1 x27 true) (cond (p1.Mode != 4) (F_retraceref22_Is_J3 p0 p1 x27 (p1.Until != 0)) (F_retraceref22_Is_J3 p0 p1 x27 false))) (cond (p1.Mode != 4) (F_retraceref22_Is_J3 p0 p1 x27 (p1.Until != 0)) (F_retraceref22_Is_J3 p0 p1 x27 false)))) (cond (p1.Mode != 2) (cond (p1.Slot != 0) (F_retraceref22_Is_J3 p0 p1 x27 true) (cond (p1.Mode != 4) (F_retraceref22_Is_J3 p0 p1 x27 (p1.Until != 0)) (F_retraceref22_Is_J3 p0 p1 x27 false))) (cond (p1.Mode != 4) (F_retraceref22_Is_J3 p0 p1 x27 (p1.Until != 0)) (F_retraceref22_Is_J3 p0 p1 x27 false))))) (cond (p1.Mode != 1) (cond (p1.Val != 0) (F_retraceref22_Is_J3 p0 p1 x27 true) (cond (p1.Mode != 2) (cond (p1.Slot != 0) (F_retraceref22_Is_J3 p0 p1 x27 true) (cond (p1.Mode != 4) (F_retraceref22_Is_J3 p0 p1 x27 (p1.Until != 0)) (F_retraceref22_Is_J3 p0 p1 x27 false))) (cond (p1.Mode != 4) (F_retraceref22_Is_J3 p0 p1 x27 (p1.Until != 0)) (F_retraceref22_Is_J3 p0 p1 x27 false)))) (cond (p1.Mode != 2) (cond (p1.Slot != 0) (F_retraceref22_Is_J3 p0 p1 x27 true) (cond (p1.Mode != 4) (F_retraceref22_Is_J3 p0 p1 x27 (p1.Until != 0)) (F_retraceref22_Is_J3 p0 p1 x27 false))) (cond (p1.Mode != 4) (F_retraceref22_Is_J3 p0 p1 x27 (p1.Until != 0)) (F_retraceref22_Is_J3 p0 p1 x27 false))))
noncomputable def F_retraceref22_Is_J1 (p0 : T_api_Code) (p1 : T_api_Proc) (x24 : Bool) : Option (Bool) :=
  cond x24 (some false) (cond (p1.Mode == 1) (F_retraceref22_Is_J2 p0 p1 true) (F_retraceref22_Is_J2 p0 p1 (p1.Mode == 2)))
noncomputable def F_retraceref22_Is (p0 : T_api_Code) (p1 : T_api_Proc) : Option (Bool) :=
  (F_retraceref22_from p1.Def ((p0.Defs).length : Int)).bind fun y309 => cond (!y309) (F_retraceref22_Is_J1 p0 p1 true) ((lAt p0.Defs p1.Def).bind fun y311 => cond (((p1.Vars).length : Int) != y311.Vars) (F_retraceref22_Is_J1 p0 p1 true) ((F_retraceref22_from p1.Fuel 1048577).bind fun y313 => cond (!y313) (F_retraceref22_Is_J1 p0 p1 true) ((F_retraceref22_from p1.Since 1099511627777).bind fun y315 => F_retraceref22_Is_J1 p0 p1 (!y315))))
/- retracelaw22_ProcChecks -/
noncomputable def F_retracelaw22_ProcChecks_J2 (x32 : Bool) : Option (Bool) :=
  some x32
noncomputable def F_retracelaw22_ProcChecks_J1 (p0 : T_api_Code) (p1 : T_api_Proc) (x14 : Bool) : Option (Bool) :=
  cond x14 ((F_retracelaw22_live).bind fun y17 => some y17) ((F_proc_Check p0 p1).bind fun y19 => (F_retraceref22_Is p0 p1).bind fun y33 => cond ((y19 == 0) == y33) (cond (y19 == 0) ((F_proc_Chans p0).bind fun y36 => (F_retraceref22_Chans p0).bind fun y37 => cond (y36 == y37) ((F_retracelaw22_live).bind fun y39 => F_retracelaw22_ProcChecks_J2 y39) (F_retracelaw22_ProcChecks_J2 false)) (cond (y19 == 9) ((F_proc_Chans p0).bind fun y41 => (F_retraceref22_Chans p0).bind fun y42 => cond (y41 == y42) ((F_retracelaw22_live).bind fun y44 => F_retracelaw22_ProcChecks_J2 y44) (F_retracelaw22_ProcChecks_J2 false)) (F_retracelaw22_ProcChecks_J2 false))) (F_retracelaw22_ProcChecks_J2 false))
noncomputable def F_retracelaw22_ProcChecks (p0 : T_api_Code) (p1 : T_api_Proc) : Option (Bool) :=
  (F_retracelaw22_large p0 p1).bind fun y45 => cond y45 (F_retracelaw22_ProcChecks_J1 p0 p1 true) ((F_retraceref20_Right p0).bind fun y47 => F_retracelaw22_ProcChecks_J1 p0 p1 (!y47))
/- retraceref22_Goes -/
noncomputable def F_retraceref22_Goes_J1 (p1 : T_api_Proc) (y4 : Int) (x16 : Bool) : Option (T_api_Proc) :=
  cond x16 (some (⟨p1.Def, 0, (([] : List Int) ++ p1.Vars), p1.Fuel, 5, 0, 0, 0, 0, 0, ([] : List T_api_Alt)⟩ : T_api_Proc)) (some (⟨p1.Def, y4, (([] : List Int) ++ p1.Vars), p1.Fuel, 0, 0, 0, 0, 0, 0, ([] : List T_api_Alt)⟩ : T_api_Proc))
noncomputable def F_retraceref22_Goes (p0 : T_api_Code) (p1 : T_api_Proc) (p2 : Int) : Option (T_api_Proc) :=
  grd (((([] : List Int)).length + (p1.Vars).length) * 8 ≤ 140737488355328) <| (F_retraceref20_Settle p0 p2).bind fun y4 => cond (decide (0 ≤ y4)) (cond (decide (y4 < ((p0.Ins).length : Int))) ((lAt p0.Ins y4).bind fun y20 => F_retraceref22_Goes_J1 p1 y4 (y20.Op == 24)) (F_retraceref22_Goes_J1 p1 y4 false)) (F_retraceref22_Goes_J1 p1 y4 false)
/- retraceref22_New -/
noncomputable def F_retraceref22_New_L2 (p0 : T_api_Code) (p1 : Int) (p3 : Int) (x36 : Int) (x37 : (List Int)) : Option ((Int × (List Int)) ⊕ (T_retraceref22_Got)) :=
  (lAt p0.Defs p1).bind fun y44 => cond (decide (x36 < y44.Vars)) (grd (((x37).length + ([0]).length) * 8 ≤ 140737488355328) <| some (.inl ((w64 (x36 + 1)), (x37 ++ [0])))) (((lAt p0.Defs p1).bind fun y54 => (F_retraceref22_Goes p0 (⟨p1, 0, x37, p3, 0, 0, 0, 0, 0, 0, ([] : (List T_api_Alt))⟩ : T_api_Proc) y54.Entry).bind fun y55 => some (⟨y55, 0⟩ : T_retraceref22_Got)).map Sum.inr)
noncomputable def F_retraceref22_New_J1 (p0 : T_api_Code) (p1 : Int) (p2 : (List Int)) (p3 : Int) (x18 : Bool) : Option (T_retraceref22_Got) :=
  cond x18 (some (⟨(⟨0, 0, ([] : List Int), 0, 0, 0, 0, 0, 0, 0, ([] : List T_api_Alt)⟩ : T_api_Proc), 1⟩ : T_retraceref22_Got)) (grd (((([] : List Int)).length + (p2).length) * 8 ≤ 140737488355328) <| Loop (fun s : (Int × (List Int)) => F_retraceref22_New_L2 p0 p1 p3 s.1 s.2) (((p2).length : Int), (([] : List Int) ++ p2)))
noncomputable def F_retraceref22_New (p0 : T_api_Code) (p1 : Int) (p2 : (List Int)) (p3 : Int) : Option (T_retraceref22_Got) :=
  (F_retraceref22_from p1 ((p0.Defs).length : Int)).bind fun y56 => cond (!y56) (F_retraceref22_New_J1 p0 p1 p2 p3 true) ((lAt p0.Defs p1).bind fun y58 => cond (((p2).length : Int) != y58.Params) (F_retraceref22_New_J1 p0 p1 p2 p3 true) ((F_retraceref22_from p3 1048577).bind fun y60 => F_retraceref22_New_J1 p0 p1 p2 p3 (!y60)))
/- retraceref03_Same -/
noncomputable def F_retraceref03_Same_L1 (p0 : (List Int)) (p1 : (List Int)) (x22 : Int) : Option ((Int) ⊕ (Bool)) :=
  cond (decide (x22 < ((p0).length : Int))) ((lAt p0 x22).bind fun y34 => (lAt p1 x22).bind fun y35 => cond (y34 != y35) ((some false).map Sum.inr) (some (.inl (w64 (x22 + 1))))) ((some true).map Sum.inr)
noncomputable def F_retraceref03_Same (p0 : (List Int)) (p1 : (List Int)) : Option (Bool) :=
  cond (((p0).length : Int) != ((p1).length : Int)) (some false) (Loop (fun s : (Int) => F_retraceref03_Same_L1 p0 p1 s) 0)
/- retraceref22_Alts -/
noncomputable def F_retraceref22_Alts_L1 (p0 : (List T_api_Alt)) (p1 : (List T_api_Alt)) (x22 : Int) : Option ((Int) ⊕ (Bool)) :=
  cond (decide (x22 < ((p0).length : Int))) ((lAt p0 x22).bind fun y34 => (lAt p1 x22).bind fun y35 => cond (!((y34.Kind == y35.Kind) && ((y34.Chan == y35.Chan) && ((y34.Val == y35.Val) && ((y34.Slot == y35.Slot) && ((y34.Goto == y35.Goto) && true)))))) ((some false).map Sum.inr) (some (.inl (w64 (x22 + 1))))) ((some true).map Sum.inr)
noncomputable def F_retraceref22_Alts (p0 : (List T_api_Alt)) (p1 : (List T_api_Alt)) : Option (Bool) :=
  cond (((p0).length : Int) != ((p1).length : Int)) (some false) (Loop (fun s : (Int) => F_retraceref22_Alts_L1 p0 p1 s) 0)
/- retraceref22_Same -/
noncomputable def F_retraceref22_Same_J2 (x26 : Bool) : Option (Bool) :=
  some x26
noncomputable def F_retraceref22_Same_J1 (p0 : T_api_Proc) (p1 : T_api_Proc) (x18 : Bool) : Option (Bool) :=
  cond x18 (some false) (cond (p0.Slot == p1.Slot) (cond (p0.Until == p1.Until) (cond (p0.Since == p1.Since) ((F_retraceref03_Same p0.Vars p1.Vars).bind fun y30 => cond y30 ((F_retraceref22_Alts p0.Alts p1.Alts).bind fun y32 => F_retraceref22_Same_J2 y32) (F_retraceref22_Same_J2 false)) (F_retraceref22_Same_J2 false)) (F_retraceref22_Same_J2 false)) (F_retraceref22_Same_J2 false))
noncomputable def F_retraceref22_Same (p0 : T_api_Proc) (p1 : T_api_Proc) : Option (Bool) :=
  cond (p0.Def != p1.Def) (F_retraceref22_Same_J1 p0 p1 true) (cond (p0.At != p1.At) (F_retraceref22_Same_J1 p0 p1 true) (cond (p0.Fuel != p1.Fuel) (F_retraceref22_Same_J1 p0 p1 true) (cond (p0.Mode != p1.Mode) (F_retraceref22_Same_J1 p0 p1 true) (cond (p0.Chan != p1.Chan) (F_retraceref22_Same_J1 p0 p1 true) (F_retraceref22_Same_J1 p0 p1 (p0.Val != p1.Val))))))
/- retracelaw22_ProcNews -/
noncomputable def F_retracelaw22_ProcNews_J2 (x32 : Bool) : Option (Bool) :=
  some x32
noncomputable def F_retracelaw22_ProcNews_J1 (p0 : T_api_Code) (p1 : Int) (p2 : (List Int)) (p3 : Int) (x14 : Bool) : Option (Bool) :=
  cond x14 ((F_retracelaw22_live).bind fun y17 => some y17) ((F_proc_New p0 p1 p2 p3).bind fun y19 => (F_retraceref22_New p0 p1 p2 p3).bind fun y21 => (F_proc_Same y19.1 y21.P).bind fun y33 => cond y33 ((F_retraceref22_Same y19.1 y21.P).bind fun y35 => cond y35 (cond (y19.2 == y21.E) (cond (y19.2 != 0) ((F_retracelaw22_live).bind fun y39 => F_retracelaw22_ProcNews_J2 y39) ((F_proc_Check p0 y19.1).bind fun y40 => cond (y40 == 0) ((F_retracelaw22_live).bind fun y42 => F_retracelaw22_ProcNews_J2 y42) (F_retracelaw22_ProcNews_J2 false))) (F_retracelaw22_ProcNews_J2 false)) (F_retracelaw22_ProcNews_J2 false)) (F_retracelaw22_ProcNews_J2 false))
noncomputable def F_retracelaw22_ProcNews (p0 : T_api_Code) (p1 : Int) (p2 : (List Int)) (p3 : Int) : Option (Bool) :=
  (F_retracelaw22_large p0 (⟨0, 0, p2, 0, 0, 0, 0, 0, 0, 0, ([] : (List T_api_Alt))⟩ : T_api_Proc)).bind fun y43 => cond y43 (F_retracelaw22_ProcNews_J1 p0 p1 p2 p3 true) ((F_retraceref20_Right p0).bind fun y45 => F_retracelaw22_ProcNews_J1 p0 p1 p2 p3 (!y45))
/- retracelaw22_ProcSame -/
noncomputable def F_retracelaw22_ProcSame_J2 (x24 : Bool) : Option (Bool) :=
  some x24
noncomputable def F_retracelaw22_ProcSame_J1 (p0 : T_api_Proc) (p1 : T_api_Proc) (x14 : Bool) : Option (Bool) :=
  cond x14 ((F_retracelaw22_live).bind fun y17 => some y17) ((F_proc_Same p0 p1).bind fun y25 => (F_retraceref22_Same p0 p1).bind fun y26 => cond (y25 == y26) ((F_proc_Same p0 p0).bind fun y28 => cond y28 ((F_retracelaw22_live).bind fun y30 => F_retracelaw22_ProcSame_J2 y30) (F_retracelaw22_ProcSame_J2 false)) (F_retracelaw22_ProcSame_J2 false))
noncomputable def F_retracelaw22_ProcSame (p0 : T_api_Proc) (p1 : T_api_Proc) : Option (Bool) :=
  cond (decide (40 < ((p0.Vars).length : Int))) (F_retracelaw22_ProcSame_J1 p0 p1 true) (cond (decide (40 < ((p1.Vars).length : Int))) (F_retracelaw22_ProcSame_J1 p0 p1 true) (cond (decide (40 < ((p0.Alts).length : Int))) (F_retracelaw22_ProcSame_J1 p0 p1 true) (F_retracelaw22_ProcSame_J1 p0 p1 (decide (40 < ((p1.Alts).length : Int))))))
/- proc_Fails -/
noncomputable def F_proc_Fails (p0 : T_api_Code) (p1 : T_api_Proc) : Option (T_api_Proc) :=
  (F_slices_Clone_int_int p1.Vars).bind fun y2 => some (⟨p1.Def, p1.At, y2, p1.Fuel, 6, 0, 0, 0, 0, 0, ([] : List T_api_Alt)⟩ : T_api_Proc)
/- retraceref22_Fails -/
noncomputable def F_retraceref22_Fails (p0 : T_api_Proc) : Option (T_api_Proc) :=
  grd (((([] : List Int)).length + (p0.Vars).length) * 8 ≤ 140737488355328) <| some (⟨p0.Def, p0.At, (([] : List Int) ++ p0.Vars), p0.Fuel, 6, 0, 0, 0, 0, 0, ([] : List T_api_Alt)⟩ : T_api_Proc)
/- retracelaw22_ProcGoes -/
noncomputable def F_retracelaw22_ProcGoes_J4 (x64 : Bool) : Option (Bool) :=
  some x64
noncomputable def F_retracelaw22_ProcGoes_J3 (p0 : T_api_Code) (y20 : T_api_Proc) (x57 : Bool) : Option (Bool) :=
  cond x57 ((F_retracelaw22_live).bind fun y60 => some y60) ((F_proc_Check p0 y20).bind fun y65 => cond (y65 == 0) ((F_retracelaw22_live).bind fun y67 => F_retracelaw22_ProcGoes_J4 y67) (F_retracelaw22_ProcGoes_J4 false))
noncomputable def F_retracelaw22_ProcGoes_J2 (p0 : T_api_Code) (p1 : T_api_Proc) (p2 : Int) (y20 : T_api_Proc) (x39 : Bool) : Option (Bool) :=
  cond x39 (some false) ((F_retraceref22_Is p0 p1).bind fun y68 => cond (!y68) (F_retracelaw22_ProcGoes_J3 p0 y20 true) ((F_retraceref20_Settle p0 p2).bind fun y70 => (F_retraceref22_Rests p0 p1.Def y70).bind fun y71 => F_retracelaw22_ProcGoes_J3 p0 y20 (!y71)))
noncomputable def F_retracelaw22_ProcGoes_J1 (p0 : T_api_Code) (p1 : T_api_Proc) (p2 : Int) (x14 : Bool) : Option (Bool) :=
  cond x14 ((F_retracelaw22_live).bind fun y17 => some y17) ((F_proc_Goes p0 p1 p2).bind fun y20 => (F_proc_Fails p0 p1).bind fun y21 => (F_retraceref22_Goes p0 p1 p2).bind fun y72 => (F_retraceref22_Same y20 y72).bind fun y73 => cond (!y73) (F_retracelaw22_ProcGoes_J2 p0 p1 p2 y20 true) ((F_retraceref22_Fails p1).bind fun y75 => (F_retraceref22_Same y21 y75).bind fun y76 => F_retracelaw22_ProcGoes_J2 p0 p1 p2 y20 (!y76)))
noncomputable def F_retracelaw22_ProcGoes (p0 : T_api_Code) (p1 : T_api_Proc) (p2 : Int) : Option (Bool) :=
  (F_retracelaw22_large p0 p1).bind fun y77 => cond y77 (F_retracelaw22_ProcGoes_J1 p0 p1 p2 true) ((F_retraceref20_Right p0).bind fun y79 => F_retracelaw22_ProcGoes_J1 p0 p1 p2 (!y79))

theorem mixedOrd : Tryz.prog.follows .mixedOrders = true := by kernel_rfl
end Go.Ab
