import Derived.Test.YtilfkpmojnammaaAbLib
import Derived.Test.YtilfkpmojnammaaProg
namespace Go.Ab
open Go.Proofs
set_option linter.unusedVariables false
structure T_api_Ins where
  Op : Int
  A : Int
  B : Int
abbrev T_api_Ins.enc (x : T_api_Ins) : List D := [.int .i64 x.Op, .int .i64 x.A, .int .i64 x.B]
theorem T_api_Ins.enc_len (x : T_api_Ins) : (T_api_Ins.enc x).length = 3 := rfl
abbrev T_api_Ins.pvs (x : T_api_Ins) : List PV := [i64 x.Op, i64 x.A, i64 x.B]
structure T_retraceref17_Act where
  Kind : Int
  X : T_api_Ins
  Label : Int
abbrev T_retraceref17_Act.enc (x : T_retraceref17_Act) : List D := [.int .i64 x.Kind, .int .i64 x.X.Op, .int .i64 x.X.A, .int .i64 x.X.B, .int .i64 x.Label]
theorem T_retraceref17_Act.enc_len (x : T_retraceref17_Act) : (T_retraceref17_Act.enc x).length = 5 := rfl
abbrev T_retraceref17_Act.pvs (x : T_retraceref17_Act) : List PV := [i64 x.Kind, i64 x.X.Op, i64 x.X.A, i64 x.X.B, i64 x.Label]
structure T_patch_cell where
  Ins : T_api_Ins
  label : Int
  aimed : Bool
abbrev T_patch_cell.enc (x : T_patch_cell) : List D := [.int .i64 x.Ins.Op, .int .i64 x.Ins.A, .int .i64 x.Ins.B, .int .i64 x.label, .bool x.aimed]
theorem T_patch_cell.enc_len (x : T_patch_cell) : (T_patch_cell.enc x).length = 5 := rfl
abbrev T_patch_cell.pvs (x : T_patch_cell) : List PV := [i64 x.Ins.Op, i64 x.Ins.A, i64 x.Ins.B, i64 x.label, bo x.aimed]
structure T_patch_Asm where
  cells : (List T_patch_cell)
  labels : (List Int)
abbrev T_patch_Asm.enc (x : T_patch_Asm) : List D := [.list false (x.cells).length (encL T_patch_cell.enc x.cells), .list false (x.labels).length (encL (eInt .i64) x.labels)]
theorem T_patch_Asm.enc_len (x : T_patch_Asm) : (T_patch_Asm.enc x).length = 2 := rfl
abbrev T_patch_Asm.pvs (x : T_patch_Asm) : List PV := [lv T_patch_cell.enc x.cells, lv (eInt .i64) x.labels]
structure T_retraceref16_Got where
  L : (List T_api_Ins)
  E : Int
abbrev T_retraceref16_Got.enc (x : T_retraceref16_Got) : List D := [.list false (x.L).length (encL T_api_Ins.enc x.L), .int .i64 x.E]
theorem T_retraceref16_Got.enc_len (x : T_retraceref16_Got) : (T_retraceref16_Got.enc x).length = 2 := rfl
abbrev T_retraceref16_Got.pvs (x : T_retraceref16_Got) : List PV := [lv T_api_Ins.enc x.L, i64 x.E]

/- patch_Asm_Label -/
noncomputable def F_patch_Asm_Label (o0 : T_patch_Asm) : Option (Int × T_patch_Asm) :=
  grd (((o0.labels).length + ([(-1)]).length) * 8 ≤ 140737488355328) <| some ((((o0.labels ++ [(-1)])).length : Int), (⟨o0.cells, (o0.labels ++ [(-1)])⟩ : T_patch_Asm))
/- patch_Asm_Go -/
noncomputable def F_patch_Asm_Go (p1 : Int) (p2 : Int) (p3 : Int) (p4 : Int) (o0 : T_patch_Asm) : Option (Int × T_patch_Asm) :=
  grd (((o0.cells).length + ([(⟨(⟨p1, p2, p3⟩ : T_api_Ins), p4, true⟩ : T_patch_cell)]).length) * 40 ≤ 140737488355328) <| some ((w64 ((((o0.cells ++ [(⟨(⟨p1, p2, p3⟩ : T_api_Ins), p4, true⟩ : T_patch_cell)])).length : Int) - 1)), (⟨(o0.cells ++ [(⟨(⟨p1, p2, p3⟩ : T_api_Ins), p4, true⟩ : T_patch_cell)]), o0.labels⟩ : T_patch_Asm))
/- patch_Asm_Put -/
noncomputable def F_patch_Asm_Put_L1 (o0 : T_patch_Asm) (o3 : (List T_api_Ins)) (x15 : Int) (x16 : (List T_patch_cell)) : Option ((Int × (List T_patch_cell)) ⊕ (Int × T_patch_Asm)) :=
  cond (decide (x15 < ((o3).length : Int))) ((lAt o3 x15).bind fun y25 => grd (((x16).length + ([(⟨y25, 0, false⟩ : T_patch_cell)]).length) * 40 ≤ 140737488355328) <| some (.inl ((w64 (x15 + 1)), (x16 ++ [(⟨y25, 0, false⟩ : T_patch_cell)])))) ((some (((o0.cells).length : Int), (⟨x16, o0.labels⟩ : T_patch_Asm))).map Sum.inr)
noncomputable def F_patch_Asm_Put (o0 : T_patch_Asm) (o3 : (List T_api_Ins)) : Option (Int × T_patch_Asm) :=
  Loop (fun s : (Int × (List T_patch_cell)) => F_patch_Asm_Put_L1 o0 o3 s.1 s.2) (0, o0.cells)
/- patch_Asm_has -/
noncomputable def F_patch_Asm_has_J1 (x2 : Bool) : Option (Bool) :=
  some x2
noncomputable def F_patch_Asm_has (p1 : Int) (o0 : T_patch_Asm) : Option (Bool) :=
  cond (decide (1 ≤ p1)) (F_patch_Asm_has_J1 (decide (p1 ≤ ((o0.labels).length : Int)))) (F_patch_Asm_has_J1 false)
/- patch_Asm_Bind -/
noncomputable def F_patch_Asm_Bind (p1 : Int) (o0 : T_patch_Asm) : Option (Int × T_patch_Asm) :=
  (F_patch_Asm_has p1 o0).bind fun y5 => cond (!y5) (some (1, o0)) ((lAt o0.labels (w64 (p1 - 1))).bind fun y11 => cond (decide (0 ≤ y11)) (some (8, o0)) (grd ((0 : Int) ≤ (w64 (p1 - 1)) ∧ (w64 (p1 - 1)) < (o0.labels).length) <| some (0, (⟨o0.cells, (List.set o0.labels (Int.toNat (w64 (p1 - 1))) ((o0.cells).length : Int))⟩ : T_patch_Asm))))
/- patch_Target -/
noncomputable def F_patch_Target_J1 (p0 : T_api_Ins) (x19 : Bool) : Option (Int × Bool) :=
  cond x19 (some (p0.A, true)) (cond (p0.Op == 19) (some (p0.B, true)) (some (0, false)))
noncomputable def F_patch_Target (p0 : T_api_Ins) : Option (Int × Bool) :=
  cond (p0.Op == 6) (F_patch_Target_J1 p0 (p0.Op == 6)) (cond (p0.Op == 7) (F_patch_Target_J1 p0 (p0.Op == 7)) (cond (p0.Op == 8) (F_patch_Target_J1 p0 (p0.Op == 8)) (cond (p0.Op == 20) (F_patch_Target_J1 p0 (p0.Op == 20)) (cond (p0.Op == 21) (F_patch_Target_J1 p0 (p0.Op == 21)) (F_patch_Target_J1 p0 (p0.Op == 22))))))
/- patch_Aim -/
noncomputable def F_patch_Aim_J1 (p0 : T_api_Ins) (x8 : Int) (x9 : Int) : Option (T_api_Ins) :=
  some (⟨p0.Op, x8, x9⟩ : T_api_Ins)
noncomputable def F_patch_Aim (p0 : T_api_Ins) (p1 : Int) : Option (T_api_Ins) :=
  (F_patch_Target p0).bind fun y5 => cond (!y5.2) (some p0) (cond (p0.Op == 19) (F_patch_Aim_J1 p0 p0.A p1) (F_patch_Aim_J1 p0 p1 p0.B))
/- patch_Asm_Done -/
noncomputable def F_patch_Asm_Done_J1 (x40 : Int) (x59 : (List T_api_Ins)) : Option ((Int × (List T_api_Ins)) ⊕ ((List T_api_Ins) × Int)) :=
  some (.inl ((w64 (x40 + 1)), x59))
noncomputable def F_patch_Asm_Done_L2 (o0 : T_patch_Asm) (x40 : Int) (x41 : (List T_api_Ins)) : Option ((Int × (List T_api_Ins)) ⊕ ((List T_api_Ins) × Int)) :=
  cond (decide (x40 < ((o0.cells).length : Int))) ((lAt o0.cells x40).bind fun y61 => cond (!y61.aimed) (grd (((x41).length + ([y61.Ins]).length) * 24 ≤ 140737488355328) <| F_patch_Asm_Done_J1 x40 (x41 ++ [y61.Ins])) ((F_patch_Asm_has y61.label o0).bind fun y65 => cond (!y65) ((some (([] : List T_api_Ins), 1)).map Sum.inr) ((lAt o0.labels (w64 (y61.label - 1))).bind fun y70 => cond (decide (y70 < 0)) ((some (([] : List T_api_Ins), 7)).map Sum.inr) ((lAt o0.labels (w64 (y61.label - 1))).bind fun y74 => (F_patch_Aim y61.Ins y74).bind fun y75 => grd (((x41).length + ([y75]).length) * 24 ≤ 140737488355328) <| F_patch_Asm_Done_J1 x40 (x41 ++ [y75]))))) ((some (x41, 0)).map Sum.inr)
noncomputable def F_patch_Asm_Done (o0 : T_patch_Asm) : Option ((List T_api_Ins) × Int) :=
  Loop (fun s : (Int × (List T_api_Ins)) => F_patch_Asm_Done_L2 o0 s.1 s.2) (0, ([] : (List T_api_Ins)))
/- patch_Asm_Len -/
noncomputable def F_patch_Asm_Len (o0 : T_patch_Asm) : Option (Int) :=
  some ((o0.cells).length : Int)
/- retracelaw17_live -/
noncomputable def F_retracelaw17_live_J1 (x18 : Bool) : Option (Bool) :=
  some x18
noncomputable def F_retracelaw17_live  : Option (Bool) :=
  (F_patch_Asm_Label (⟨([] : List T_patch_cell), ([] : List Int)⟩ : T_patch_Asm)).bind fun y2 => (F_patch_Asm_Go 6 0 0 y2.1 y2.2).bind fun y4 => (F_patch_Asm_Put y4.2 ([(⟨17, 0, 0⟩ : T_api_Ins)])).bind fun y6 => (F_patch_Asm_Bind y2.1 y6.2).bind fun y8 => (F_patch_Asm_Done y8.2).bind fun y10 => cond (y2.1 == 1) (cond (y8.1 == 0) (cond (y10.2 == 0) (cond (((y10.1).length : Int) == 2) ((lAt y10.1 0).bind fun y23 => cond ((y23.Op == 6) && ((y23.A == 2) && ((y23.B == 0) && true))) ((F_patch_Asm_Len y8.2).bind fun y25 => F_retracelaw17_live_J1 (y25 == 2)) (F_retracelaw17_live_J1 false)) (F_retracelaw17_live_J1 false)) (F_retracelaw17_live_J1 false)) (F_retracelaw17_live_J1 false)) (F_retracelaw17_live_J1 false)
/- retraceref17_bound -/
noncomputable def F_retraceref17_bound_J1 (x51 : Int) (x73 : Int) (x74 : Int) (x75 : Int) : Option ((Int × Int × Int × Int) ⊕ ((List Int))) :=
  some (.inl (x73, x74, x75, (w64 (x51 + 1))))
noncomputable def F_retraceref17_bound_J3 (x48 : Int) (x49 : Int) (x50 : Int) (x51 : Int) (x86 : Bool) : Option ((Int × Int × Int × Int) ⊕ ((List Int))) :=
  cond x86 (F_retraceref17_bound_J1 x51 x50 x49 x50) (F_retraceref17_bound_J1 x51 x48 x49 x50)
noncomputable def F_retraceref17_bound_J2 (p0 : (List T_retraceref17_Act)) (p1 : Int) (x48 : Int) (x49 : Int) (x50 : Int) (x51 : Int) (y77 : T_retraceref17_Act) (x79 : Bool) : Option ((Int × Int × Int × Int) ⊕ ((List Int))) :=
  cond x79 (F_retraceref17_bound_J1 x51 x48 x49 (w64 (x50 + 1))) (cond (y77.Kind == 1) (F_retraceref17_bound_J1 x51 x48 (w64 (x49 + 1)) x50) ((lAt p0 x51).bind fun y88 => cond (y88.Label == p1) (cond (decide (1 ≤ p1)) (cond (decide (p1 ≤ x49)) (F_retraceref17_bound_J3 x48 x49 x50 x51 (decide (x48 < 0))) (F_retraceref17_bound_J3 x48 x49 x50 x51 false)) (F_retraceref17_bound_J3 x48 x49 x50 x51 false)) (F_retraceref17_bound_J3 x48 x49 x50 x51 false)))
noncomputable def F_retraceref17_bound_L4 (p0 : (List T_retraceref17_Act)) (p1 : Int) (x48 : Int) (x49 : Int) (x50 : Int) (x51 : Int) : Option ((Int × Int × Int × Int) ⊕ ((List Int))) :=
  cond (decide (x51 < ((p0).length : Int))) ((lAt p0 x51).bind fun y77 => cond (y77.Kind == 0) (F_retraceref17_bound_J2 p0 p1 x48 x49 x50 x51 y77 (y77.Kind == 0)) (F_retraceref17_bound_J2 p0 p1 x48 x49 x50 x51 y77 (y77.Kind == 2))) ((grd ((([x48, x49] : List Int)).length = 2 ∧ ((List.replicate 2 (0 : Int))).length = 2) <| grd ((([x48, x49] : List Int)).length = 2) <| some ([x48, x49] : List Int)).map Sum.inr)
noncomputable def F_retraceref17_bound (p0 : (List T_retraceref17_Act)) (p1 : Int) : Option ((List Int)) :=
  Loop (fun s : (Int × Int × Int × Int) => F_retraceref17_bound_L4 p0 p1 s.1 s.2.1 s.2.2.1 s.2.2.2) ((-1), 0, 0, 0)
/- retraceref17_Counts -/
noncomputable def F_retraceref17_Counts_J1 (x27 : Int) (x40 : Int) : Option ((Int × Int) ⊕ ((List Int))) :=
  some (.inl (x40, (w64 (x27 + 1))))
noncomputable def F_retraceref17_Counts_J2 (x26 : Int) (x27 : Int) (x44 : Bool) : Option ((Int × Int) ⊕ ((List Int))) :=
  cond x44 (F_retraceref17_Counts_J1 x27 (w64 (x26 + 1))) (F_retraceref17_Counts_J1 x27 x26)
noncomputable def F_retraceref17_Counts_L3 (p0 : (List T_retraceref17_Act)) (x26 : Int) (x27 : Int) : Option ((Int × Int) ⊕ ((List Int))) :=
  cond (decide (x27 < ((p0).length : Int))) ((lAt p0 x27).bind fun y46 => cond (y46.Kind == 0) (F_retraceref17_Counts_J2 x26 x27 true) ((lAt p0 x27).bind fun y48 => F_retraceref17_Counts_J2 x26 x27 (y48.Kind == 2))) (((F_retraceref17_bound p0 0).bind fun y54 => (aAt 2 y54 1).bind fun y55 => grd ((([x26, y55] : List Int)).length = 2 ∧ ((List.replicate 2 (0 : Int))).length = 2) <| grd ((([x26, y55] : List Int)).length = 2) <| some ([x26, y55] : List Int)).map Sum.inr)
noncomputable def F_retraceref17_Counts (p0 : (List T_retraceref17_Act)) : Option ((List Int)) :=
  Loop (fun s : (Int × Int) => F_retraceref17_Counts_L3 p0 s.1 s.2) (0, 0)
/- retraceref17_Bind -/
noncomputable def F_retraceref17_Bind_J1 (y3 : (List Int)) (x13 : Bool) : Option (Int) :=
  cond x13 (some 1) ((aAt 2 y3 0).bind fun y19 => cond (decide (0 ≤ y19)) (some 8) (some 0))
noncomputable def F_retraceref17_Bind (p0 : (List T_retraceref17_Act)) (p1 : Int) : Option (Int) :=
  (F_retraceref17_bound p0 p1).bind fun y3 => grd ((y3).length = 2 ∧ ((List.replicate 2 (0 : Int))).length = 2) <| cond (decide (p1 < 1)) (F_retraceref17_Bind_J1 y3 true) ((aAt 2 y3 1).bind fun y22 => F_retraceref17_Bind_J1 y3 (decide (y22 < p1)))
/- retraceref17_Which -/
noncomputable def F_retraceref17_Which_J1 (x20 : Bool) : Option (Int) :=
  cond x20 (some 1) (some 0)
noncomputable def F_retraceref17_Which (p0 : Int) : Option (Int) :=
  cond (p0 == 19) (some 2) (cond (p0 == 6) (F_retraceref17_Which_J1 true) (cond (p0 == 7) (F_retraceref17_Which_J1 true) (cond (p0 == 8) (F_retraceref17_Which_J1 true) (cond (p0 == 20) (F_retraceref17_Which_J1 true) (cond (p0 == 21) (F_retraceref17_Which_J1 true) (F_retraceref17_Which_J1 (p0 == 22)))))))
/- retraceref17_Aim -/
noncomputable def F_retraceref17_Aim_J1 (p0 : T_api_Ins) (x5 : Int) (x6 : Int) : Option (T_api_Ins) :=
  some (⟨p0.Op, x5, x6⟩ : T_api_Ins)
noncomputable def F_retraceref17_Aim (p0 : T_api_Ins) (p1 : Int) : Option (T_api_Ins) :=
  (F_retraceref17_Which p0.Op).bind fun y8 => cond (y8 == 1) (F_retraceref17_Aim_J1 p0 p1 p0.B) (cond (y8 == 2) (F_retraceref17_Aim_J1 p0 p0.A p1) (F_retraceref17_Aim_J1 p0 p0.A p0.B))
/- retraceref17_Done -/
noncomputable def F_retraceref17_Done_J1 (x98 : Int) (x146 : (List T_api_Ins)) : Option ((Int × (List T_api_Ins)) ⊕ (T_retraceref16_Got)) :=
  some (.inl ((w64 (x98 + 1)), x146))
noncomputable def F_retraceref17_Done_J2 (p0 : (List T_retraceref17_Act)) (x98 : Int) (x99 : (List T_api_Ins)) (y157 : (List Int)) (x173 : Bool) : Option ((Int × (List T_api_Ins)) ⊕ (T_retraceref16_Got)) :=
  cond x173 ((some (⟨([] : List T_api_Ins), 1⟩ : T_retraceref16_Got)).map Sum.inr) ((aAt 2 y157 0).bind fun y181 => cond (decide (y181 < 0)) ((some (⟨([] : List T_api_Ins), 7⟩ : T_retraceref16_Got)).map Sum.inr) ((lAt p0 x98).bind fun y185 => (aAt 2 y157 0).bind fun y186 => (F_retraceref17_Aim y185.X y186).bind fun y187 => grd (((x99).length + ([y187]).length) * 24 ≤ 140737488355328) <| F_retraceref17_Done_J1 x98 (x99 ++ [y187])))
noncomputable def F_retraceref17_Done_L3 (p0 : (List T_retraceref17_Act)) (x98 : Int) (x99 : (List T_api_Ins)) : Option ((Int × (List T_api_Ins)) ⊕ (T_retraceref16_Got)) :=
  cond (decide (x98 < ((p0).length : Int))) ((lAt p0 x98).bind fun y148 => cond (y148.Kind == 0) ((lAt p0 x98).bind fun y150 => grd (((x99).length + ([y150.X]).length) * 24 ≤ 140737488355328) <| F_retraceref17_Done_J1 x98 (x99 ++ [y150.X])) (cond (y148.Kind == 2) ((lAt p0 x98).bind fun y156 => (F_retraceref17_bound p0 y156.Label).bind fun y157 => grd ((y157).length = 2 ∧ ((List.replicate 2 (0 : Int))).length = 2) <| (lAt p0 x98).bind fun y189 => cond (decide (y189.Label < 1)) (F_retraceref17_Done_J2 p0 x98 x99 y157 true) ((lAt p0 x98).bind fun y191 => (aAt 2 y157 1).bind fun y192 => F_retraceref17_Done_J2 p0 x98 x99 y157 (decide (y192 < y191.Label)))) (F_retraceref17_Done_J1 x98 x99))) ((some (⟨x99, 0⟩ : T_retraceref16_Got)).map Sum.inr)
noncomputable def F_retraceref17_Done (p0 : (List T_retraceref17_Act)) : Option (T_retraceref16_Got) :=
  Loop (fun s : (Int × (List T_api_Ins)) => F_retraceref17_Done_L3 p0 s.1 s.2) (0, ([] : (List T_api_Ins)))
/- retraceref16_Same -/
noncomputable def F_retraceref16_Same_L1 (p0 : (List T_api_Ins)) (p1 : (List T_api_Ins)) (x22 : Int) : Option ((Int) ⊕ (Bool)) :=
  cond (decide (x22 < ((p0).length : Int))) ((lAt p0 x22).bind fun y34 => (lAt p1 x22).bind fun y35 => cond (!((y34.Op == y35.Op) && ((y34.A == y35.A) && ((y34.B == y35.B) && true)))) ((some false).map Sum.inr) (some (.inl (w64 (x22 + 1))))) ((some true).map Sum.inr)
noncomputable def F_retraceref16_Same (p0 : (List T_api_Ins)) (p1 : (List T_api_Ins)) : Option (Bool) :=
  cond (((p0).length : Int) != ((p1).length : Int)) (some false) (Loop (fun s : (Int) => F_retraceref16_Same_L1 p0 p1 s) 0)
/- retracelaw17_PatchPlays -/
noncomputable def F_retracelaw17_PatchPlays_J1 (p0 : (List T_retraceref17_Act)) (x164 : Int) (x273 : (List T_patch_cell)) (x274 : (List Int)) : Option ((Int × (List T_patch_cell) × (List Int)) ⊕ (Bool)) :=
  (F_patch_Asm_Len (⟨x273, x274⟩ : T_patch_Asm)).bind fun y279 => grd ((0 : Int) ≤ 0 ∧ 0 ≤ (w64 (x164 + 1)) ∧ (w64 (x164 + 1)) ≤ ((p0).length : Int)) <| (F_retraceref17_Counts (lCut p0 0 (w64 (x164 + 1)))).bind fun y281 => (aAt 2 y281 0).bind fun y282 => cond (y279 != y282) ((some false).map Sum.inr) (some (.inl ((w64 (x164 + 1)), x273, x274)))
noncomputable def F_retracelaw17_PatchPlays_J2 (x334 : Bool) : Option (Bool) :=
  some x334
noncomputable def F_retracelaw17_PatchPlays_L3 (p0 : (List T_retraceref17_Act)) (x164 : Int) (x165 : (List T_patch_cell)) (x166 : (List Int)) : Option ((Int × (List T_patch_cell) × (List Int)) ⊕ (Bool)) :=
  cond (decide (x164 < ((p0).length : Int))) ((lAt p0 x164).bind fun y241 => grd ((0 : Int) ≤ 0 ∧ 0 ≤ x164 ∧ x164 ≤ ((p0).length : Int)) <| (F_retraceref17_Counts (lCut p0 0 x164)).bind fun y246 => grd ((y246).length = 2 ∧ ((List.replicate 2 (0 : Int))).length = 2) <| cond (y241.Kind == 0) ((F_patch_Asm_Put (⟨x165, x166⟩ : T_patch_Asm) ([y241.X])).bind fun y289 => (aAt 2 y246 0).bind fun y290 => cond (y289.1 != y290) ((some false).map Sum.inr) (F_retracelaw17_PatchPlays_J1 p0 x164 y289.2.cells y289.2.labels)) (cond (y241.Kind == 1) ((F_patch_Asm_Label (⟨x165, x166⟩ : T_patch_Asm)).bind fun y297 => (aAt 2 y246 1).bind fun y298 => cond (y297.1 != (w64 (y298 + 1))) ((some false).map Sum.inr) (F_retracelaw17_PatchPlays_J1 p0 x164 y297.2.cells y297.2.labels)) (cond (y241.Kind == 2) ((F_patch_Asm_Go y241.X.Op y241.X.A y241.X.B y241.Label (⟨x165, x166⟩ : T_patch_Asm)).bind fun y305 => (aAt 2 y246 0).bind fun y306 => cond (y305.1 != y306) ((some false).map Sum.inr) (F_retracelaw17_PatchPlays_J1 p0 x164 y305.2.cells y305.2.labels)) ((F_patch_Asm_Bind y241.Label (⟨x165, x166⟩ : T_patch_Asm)).bind fun y313 => grd ((0 : Int) ≤ 0 ∧ 0 ≤ x164 ∧ x164 ≤ ((p0).length : Int)) <| (F_retraceref17_Bind (lCut p0 0 x164) y241.Label).bind fun y315 => cond (y313.1 != y315) ((some false).map Sum.inr) (F_retracelaw17_PatchPlays_J1 p0 x164 y313.2.cells y313.2.labels))))) (((F_patch_Asm_Done (⟨x165, x166⟩ : T_patch_Asm)).bind fun y322 => (F_retraceref17_Done p0).bind fun y324 => (F_patch_Asm_Done (⟨x165, x166⟩ : T_patch_Asm)).bind fun y326 => (F_retraceref16_Same y322.1 y324.L).bind fun y335 => cond y335 (cond (y322.2 == y324.E) ((F_retraceref16_Same y326.1 y322.1).bind fun y338 => cond y338 (cond (y326.2 == y322.2) ((F_retracelaw17_live).bind fun y341 => F_retracelaw17_PatchPlays_J2 y341) (F_retracelaw17_PatchPlays_J2 false)) (F_retracelaw17_PatchPlays_J2 false)) (F_retracelaw17_PatchPlays_J2 false)) (F_retracelaw17_PatchPlays_J2 false)).map Sum.inr)
noncomputable def F_retracelaw17_PatchPlays (p0 : (List T_retraceref17_Act)) : Option (Bool) :=
  cond (decide (100 < ((p0).length : Int))) ((F_retracelaw17_live).bind fun y6 => some y6) (Loop (fun s : (Int × (List T_patch_cell) × (List Int)) => F_retracelaw17_PatchPlays_L3 p0 s.1 s.2.1 s.2.2) (0, ([] : (List T_patch_cell)), ([] : (List Int))))

theorem mixedOrd : Try.prog.follows .mixedOrders = true := by kernel_rfl
end Go.Ab
