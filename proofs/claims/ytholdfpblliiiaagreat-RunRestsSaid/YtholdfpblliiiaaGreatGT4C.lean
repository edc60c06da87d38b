import Derived.Test.YtholdfpblliiiaaGreatGT41
namespace Go.Ab
open Go.Proofs
set_option linter.unusedVariables false
set_option maxRecDepth 100000
theorem C_run_runner_ends (p1 : T_api_Ins) (p2 : Int) (o0_0 : (List T_api_Ins)) (o0_1 : (List T_api_Def)) (o0_2 : (List T_api_Chan)) (o0_3 : Int) (o0_4 : Int) (o0_5 : Int) (o0_6 : Int) (o0_7 : (List Int)) (o0_8 : Int) (o0_9 : Int) (o0_10 : Int) (o0_11 : Int) (o0_12 : Int) (o0_13 : Int) (o0_14 : Int) (o0_15 : (List T_api_Alt)) (o0_17 : Int) (o0_18 : Int) (o0_19 : Int) (o0_20 : Int) (o0_21 : Int) (o0_22 : Int) (o0_23 : Int) (o0_24 : Int) (o0_27 : Int) (o0_28 : Bool) (o1 : T_stack_Stack_int_) (o3 : (List Int)) (o4 : (List T_api_Alt)) (r : (Int × Int × Int × Int × Int × Int × Int × Bool × T_stack_Stack_int_ × (List Int) × (List T_api_Alt)) ⊕ (Int × Int × Int × Bool × T_stack_Stack_int_ × (List T_api_Alt) × (List Int)) ⊕ (Int × Int × Bool × (List T_api_Alt))) (h : F_run_runner_ends p1 p2 o0_0 o0_1 o0_2 o0_3 o0_4 o0_18 o0_20 o0_21 o0_22 o0_23 o0_24 o0_27 o0_28 o1 o3 o4 = some r) : FnOK Tryz.prog 34 [.ptr 0 0, .agg (T_api_Ins.pvs p1), i64 p2] [.blk 81 [lv T_api_Ins.enc o0_0, lv T_api_Def.enc o0_1, lv T_api_Chan.enc o0_2, i64 o0_3, i64 o0_4, i64 o0_5, i64 o0_6, lv (eInt .i64) o0_7, i64 o0_8, i64 o0_9, i64 o0_10, i64 o0_11, i64 o0_12, i64 o0_13, i64 o0_14, lv T_api_Alt.enc o0_15, .ptr 1 0, i64 o0_17, i64 o0_18, i64 o0_19, i64 o0_20, i64 o0_21, i64 o0_22, i64 o0_23, i64 o0_24, .row 3 (o3).length, .row 4 (o4).length, i64 o0_27, bo o0_28], .blk 123 [.row 2 (o1.l).length, i64 o1.most], .row 3 1 (encL (eInt .i64) o1.l), .row 3 1 (encL (eInt .i64) o3), .row 47 5 (encL T_api_Alt.enc o4)] ((Sum.elim (fun r => .tup []) (Sum.elim (fun r => .tup []) (fun r => .tup []))) r) ((Sum.elim (fun r => [.blk 81 [lv T_api_Ins.enc o0_0, lv T_api_Def.enc o0_1, lv T_api_Chan.enc o0_2, i64 o0_3, i64 o0_4, i64 o0_5, i64 o0_6, lv (eInt .i64) o0_7, i64 o0_8, i64 o0_9, i64 o0_10, i64 o0_11, i64 o0_12, i64 o0_13, i64 o0_14, lv T_api_Alt.enc o0_15, .ptr 1 0, i64 o0_17, i64 r.1, i64 o0_19, i64 r.2.1, i64 r.2.2.1, i64 r.2.2.2.1, i64 r.2.2.2.2.1, i64 r.2.2.2.2.2.1, .row 3 (r.2.2.2.2.2.2.2.2.2.1).length, .row 5 (r.2.2.2.2.2.2.2.2.2.2).length, i64 r.2.2.2.2.2.2.1, bo r.2.2.2.2.2.2.2.1], .blk 123 [.row 2 (r.2.2.2.2.2.2.2.2.1.l).length, i64 r.2.2.2.2.2.2.2.2.1.most], .row 3 1 (encL (eInt .i64) r.2.2.2.2.2.2.2.2.1.l), .row 3 1 (encL (eInt .i64) r.2.2.2.2.2.2.2.2.2.1), .row 47 5 (encL T_api_Alt.enc o4), .row 47 5 (encL T_api_Alt.enc r.2.2.2.2.2.2.2.2.2.2)]) (Sum.elim (fun r => [.blk 81 [lv T_api_Ins.enc o0_0, lv T_api_Def.enc o0_1, lv T_api_Chan.enc o0_2, i64 o0_3, i64 o0_4, i64 o0_5, i64 o0_6, lv (eInt .i64) o0_7, i64 o0_8, i64 o0_9, i64 o0_10, i64 o0_11, i64 o0_12, i64 o0_13, i64 o0_14, lv T_api_Alt.enc o0_15, .ptr 1 0, i64 o0_17, i64 r.1, i64 o0_19, i64 r.2.1, i64 o0_21, i64 o0_22, i64 o0_23, i64 r.2.2.1, .row 5 (r.2.2.2.2.2.2).length, .row 4 (r.2.2.2.2.2.1).length, i64 o0_27, bo r.2.2.2.1], .blk 123 [.row 2 (r.2.2.2.2.1.l).length, i64 r.2.2.2.2.1.most], .row 3 1 (encL (eInt .i64) r.2.2.2.2.1.l), .row 3 1 (encL (eInt .i64) o3), .row 47 5 (encL T_api_Alt.enc r.2.2.2.2.2.1), .row 3 1 (encL (eInt .i64) r.2.2.2.2.2.2)]) (fun r => [.blk 81 [lv T_api_Ins.enc o0_0, lv T_api_Def.enc o0_1, lv T_api_Chan.enc o0_2, i64 o0_3, i64 o0_4, i64 o0_5, i64 o0_6, lv (eInt .i64) o0_7, i64 o0_8, i64 o0_9, i64 o0_10, i64 o0_11, i64 o0_12, i64 o0_13, i64 o0_14, lv T_api_Alt.enc o0_15, .ptr 1 0, i64 o0_17, i64 r.1, i64 o0_19, i64 r.2.1, i64 o0_21, i64 o0_22, i64 o0_23, i64 o0_24, .row 3 (o3).length, .row 4 (r.2.2.2).length, i64 o0_27, bo r.2.2.1], .blk 123 [.row 2 (o1.l).length, i64 o1.most], .row 3 1 (encL (eInt .i64) o1.l), .row 3 1 (encL (eInt .i64) o3), .row 47 5 (encL T_api_Alt.enc r.2.2.2)]))) r) [1, 3, 4, 5, 6, 7, 8, 9] := by
  refine fI Tryz.func34 rfl fun E gv R hR => ?_
  refine At.sR [0, 2, 4] [0, 1, 2, 3, 4, 5, 6, 7, 8, 9, 10] [] ?_
  obtain ⟨y2, hy2, h⟩ := bs h
  refine At.sR [0, 2, 4, 6] [0, 1, 2, 3, 4, 5, 6, 7, 8, 9, 10] [c0 6 (C_code_Settle (⟨o0_0, o0_1, o0_2, o0_3, o0_4⟩ : T_api_Code) (w64 (p2 + 1)) y2 hy2)] ?_
  refine At.sR [0, 2, 4, 6, 7] [0, 1, 2, 3, 4, 5, 6, 7, 8, 9, 10] [] ?_
  refine At.sR [0, 2, 4, 6, 7] [0, 1, 2, 3, 4, 5, 6, 7, 8, 9, 10] [] ?_
  refine At.sR [0, 2, 4, 6, 7, 27] [0, 1, 2, 3, 4, 5, 6, 7, 8, 9, 10] [] ?_
  refine At.block ?_
  refine At.seqJ (S := Bool) (fun s => ⟨[(0, .ptr 0 0), (2, i64 p2), (4, .ptr 10 0), (6, i64 y2), (7, .row 4 (o4).length), (27, i64 p1.Op), (28, bo s)], [.blk 81 [lv T_api_Ins.enc o0_0, lv T_api_Def.enc o0_1, lv T_api_Chan.enc o0_2, i64 o0_3, i64 o0_4, i64 o0_5, i64 o0_6, lv (eInt .i64) o0_7, i64 o0_8, i64 o0_9, i64 o0_10, i64 o0_11, i64 o0_12, i64 o0_13, i64 o0_14, lv T_api_Alt.enc o0_15, .ptr 1 0, i64 o0_17, i64 o0_18, i64 o0_19, i64 o0_20, i64 o0_21, i64 o0_22, i64 o0_23, i64 o0_24, .row 3 (o3).length, .d (.list true 0 []), i64 o0_27, bo o0_28], .blk 123 [.row 2 (o1.l).length, i64 o1.most], .row 3 1 (encL (eInt .i64) o1.l), .row 3 1 (encL (eInt .i64) o3), .row 47 5 (encL T_api_Alt.enc o4), .ghost (gv 0) (.ptr 0 0), .ghost (gv 1) (.ptr 1 0), .ghost (gv 2) (.row 2 0), .ghost (gv 3) (.row 3 0), .ghost (gv 4) (.row 4 0), .blk 50 (T_api_Ins.pvs p1)]⟩) (fun s => F_run_runner_ends_J1 p1 p2 o0_0 o0_1 o0_2 o0_3 o0_4 o0_18 o0_20 o0_21 o0_22 o0_23 o0_24 o0_27 o0_28 o1 o3 o4 y2 s = some r) ?_ ?_
  · refine At.seq ?_
    refine At.rK (st' := ⟨[(0, .ptr 0 0), (2, i64 p2), (4, .ptr 10 0), (6, i64 y2), (7, .row 4 (o4).length), (27, i64 p1.Op), (28, bo (p1.Op == 1))], [.blk 81 [lv T_api_Ins.enc o0_0, lv T_api_Def.enc o0_1, lv T_api_Chan.enc o0_2, i64 o0_3, i64 o0_4, i64 o0_5, i64 o0_6, lv (eInt .i64) o0_7, i64 o0_8, i64 o0_9, i64 o0_10, i64 o0_11, i64 o0_12, i64 o0_13, i64 o0_14, lv T_api_Alt.enc o0_15, .ptr 1 0, i64 o0_17, i64 o0_18, i64 o0_19, i64 o0_20, i64 o0_21, i64 o0_22, i64 o0_23, i64 o0_24, .row 3 (o3).length, .d (.list true 0 []), i64 o0_27, bo o0_28], .blk 123 [.row 2 (o1.l).length, i64 o1.most], .row 3 1 (encL (eInt .i64) o1.l), .row 3 1 (encL (eInt .i64) o3), .row 47 5 (encL T_api_Alt.enc o4), .ghost (gv 0) (.ptr 0 0), .ghost (gv 1) (.ptr 1 0), .ghost (gv 2) (.row 2 0), .ghost (gv 3) (.row 3 0), .ghost (gv 4) (.row 4 0), .blk 50 (T_api_Ins.pvs p1)]⟩) [0, 2, 4, 6, 7, 27, 28] [0, 1, 2, 3, 4, 5, 6, 7, 8, 9, 10] [] (norm ?_)
    refine At.cd h (fun b65 h => ?_) (fun b65 h => ?_)
    · refine At.skip (fun _ _ i => ⟨(p1.Op == 1), h, i⟩)
    · exact At.rK [0, 2, 4, 6, 7, 27, 28] [0, 1, 2, 3, 4, 5, 6, 7, 8, 9, 10] [] fun _ _ i => ⟨(p1.Op == 24), h, i⟩
  · intro x4 h
    refine At.cd h (fun b5 h => ?_) (fun b5 h => ?_)
    · refine At.eds [.ownO 0 26 47 5] (st' := ⟨[(0, .ptr 0 0), (2, i64 p2), (4, .ptr 10 0), (6, i64 y2), (7, .row 4 (o4).length), (27, i64 p1.Op), (28, bo x4)], [.blk 81 [lv T_api_Ins.enc o0_0, lv T_api_Def.enc o0_1, lv T_api_Chan.enc o0_2, i64 o0_3, i64 o0_4, i64 o0_5, i64 o0_6, lv (eInt .i64) o0_7, i64 o0_8, i64 o0_9, i64 o0_10, i64 o0_11, i64 o0_12, i64 o0_13, i64 o0_14, lv T_api_Alt.enc o0_15, .ptr 1 0, i64 o0_17, i64 o0_18, i64 o0_19, i64 o0_20, i64 o0_21, i64 o0_22, i64 o0_23, i64 o0_24, .row 3 (o3).length, .row 11 ([] : List T_api_Alt).length, i64 o0_27, bo o0_28], .blk 123 [.row 2 (o1.l).length, i64 o1.most], .row 3 1 (encL (eInt .i64) o1.l), .row 3 1 (encL (eInt .i64) o3), .row 47 5 (encL T_api_Alt.enc o4), .ghost (gv 0) (.ptr 0 0), .ghost (gv 1) (.ptr 1 0), .ghost (gv 2) (.row 2 0), .ghost (gv 3) (.row 3 0), .ghost (gv 4) (.row 4 0), .blk 50 (T_api_Ins.pvs p1), .row 47 5 (encL T_api_Alt.enc ([]))]⟩) (by kernel_rfl) ?_
      obtain ⟨y6, hy6, h⟩ := bs h
      obtain rfl := sq h
      refine At.rG [] [0, 1, 2, 3, 4, 5, 6, 7, 8, 9, 11] [cT 2 5 [0, 1, 2, 3, 11] (C_run_runner_end 1 p2 o0_0 o0_1 o0_2 o0_3 o0_4 o0_5 o0_6 o0_7 o0_8 o0_9 o0_10 o0_11 o0_12 o0_13 o0_14 o0_15 o0_17 o0_18 o0_19 o0_20 o0_21 o0_22 o0_23 o0_24 o0_27 o0_28 o1 o3 ([] : List T_api_Alt) y6 hy6)] (edq (l := [.hideG 7, .hideG 8, .hideG 9]) (ks := []) (ρ := [0, 1, 2, 3, 4, 5, 6, 7, 8, 9, 10]) (st' := ⟨[], [.blk 81 [lv T_api_Ins.enc o0_0, lv T_api_Def.enc o0_1, lv T_api_Chan.enc o0_2, i64 o0_3, i64 o0_4, i64 o0_5, i64 o0_6, lv (eInt .i64) o0_7, i64 o0_8, i64 o0_9, i64 o0_10, i64 o0_11, i64 o0_12, i64 o0_13, i64 o0_14, lv T_api_Alt.enc o0_15, .ptr 1 0, i64 o0_17, i64 y6.1, i64 o0_19, i64 y6.2.1, i64 o0_21, i64 o0_22, i64 o0_23, i64 o0_24, .row 3 (o3).length, .row 10 ([] : List T_api_Alt).length, i64 o0_27, bo y6.2.2], .blk 123 [.row 2 (o1.l).length, i64 o1.most], .row 3 1 (encL (eInt .i64) o1.l), .row 3 1 (encL (eInt .i64) o3), .row 47 5 (encL T_api_Alt.enc o4), .ghost (gv 0) (.ptr 0 0), .ghost (gv 1) (.ptr 1 0), .ghost (gv 2) (.undef), .ghost (gv 3) (.undef), .ghost (gv 4) (.undef), .row 47 5 (encL T_api_Alt.enc ([]))]⟩) (by kernel_rfl) (At.rN hR [0, 1, 2, 3, 4, 10]))
    · refine At.seqJ (S := Bool) (fun s => ⟨[(0, .ptr 0 0), (4, .ptr 10 0), (6, i64 y2), (7, .row 4 (o4).length), (27, i64 p1.Op), (34, bo s)], [.blk 81 [lv T_api_Ins.enc o0_0, lv T_api_Def.enc o0_1, lv T_api_Chan.enc o0_2, i64 o0_3, i64 o0_4, i64 o0_5, i64 o0_6, lv (eInt .i64) o0_7, i64 o0_8, i64 o0_9, i64 o0_10, i64 o0_11, i64 o0_12, i64 o0_13, i64 o0_14, lv T_api_Alt.enc o0_15, .ptr 1 0, i64 o0_17, i64 o0_18, i64 o0_19, i64 o0_20, i64 o0_21, i64 o0_22, i64 o0_23, i64 o0_24, .row 3 (o3).length, .d (.list true 0 []), i64 o0_27, bo o0_28], .blk 123 [.row 2 (o1.l).length, i64 o1.most], .row 3 1 (encL (eInt .i64) o1.l), .row 3 1 (encL (eInt .i64) o3), .row 47 5 (encL T_api_Alt.enc o4), .ghost (gv 0) (.ptr 0 0), .ghost (gv 1) (.ptr 1 0), .ghost (gv 2) (.row 2 0), .ghost (gv 3) (.row 3 0), .ghost (gv 4) (.row 4 0), .blk 50 (T_api_Ins.pvs p1)]⟩) (fun s => F_run_runner_ends_J2 p1 o0_0 o0_1 o0_2 o0_3 o0_4 o0_18 o0_20 o0_21 o0_22 o0_23 o0_24 o0_27 o0_28 o1 o3 o4 y2 s = some r) ?_ ?_
      · refine At.sR [0, 4, 6, 7, 27, 34] [0, 1, 2, 3, 4, 5, 6, 7, 8, 9, 10] [] ?_
        refine At.cd h (fun b64 h => ?_) (fun b64 h => ?_)
        · refine At.skip (fun _ _ i => ⟨(p1.Op == 4), h, i.en [] [0, 4, 6, 7, 27, 34] [0, 1, 2, 3, 4, 5, 6, 7, 8, 9, 10]⟩)
        · exact At.rK [0, 4, 6, 7, 27, 34] [0, 1, 2, 3, 4, 5, 6, 7, 8, 9, 10] [] fun _ _ i => ⟨(p1.Op == 12), h, i⟩
      · intro x8 h
        refine At.cd h (fun b9 h => ?_) (fun b9 h => ?_)
        · refine At.seq ?_
          refine At.eds [.ownO 0 26 47 5] (st' := ⟨[(0, .ptr 0 0), (4, .ptr 10 0), (6, i64 y2), (7, .row 4 (o4).length), (27, i64 p1.Op), (34, bo x8)], [.blk 81 [lv T_api_Ins.enc o0_0, lv T_api_Def.enc o0_1, lv T_api_Chan.enc o0_2, i64 o0_3, i64 o0_4, i64 o0_5, i64 o0_6, lv (eInt .i64) o0_7, i64 o0_8, i64 o0_9, i64 o0_10, i64 o0_11, i64 o0_12, i64 o0_13, i64 o0_14, lv T_api_Alt.enc o0_15, .ptr 1 0, i64 o0_17, i64 o0_18, i64 o0_19, i64 o0_20, i64 o0_21, i64 o0_22, i64 o0_23, i64 o0_24, .row 3 (o3).length, .row 11 ([] : List T_api_Alt).length, i64 o0_27, bo o0_28], .blk 123 [.row 2 (o1.l).length, i64 o1.most], .row 3 1 (encL (eInt .i64) o1.l), .row 3 1 (encL (eInt .i64) o3), .row 47 5 (encL T_api_Alt.enc o4), .ghost (gv 0) (.ptr 0 0), .ghost (gv 1) (.ptr 1 0), .ghost (gv 2) (.row 2 0), .ghost (gv 3) (.row 3 0), .ghost (gv 4) (.row 4 0), .blk 50 (T_api_Ins.pvs p1), .row 47 5 (encL T_api_Alt.enc ([]))]⟩) (by kernel_rfl) ?_
          obtain ⟨y11, hy11, h⟩ := bs h
          refine At.dG 0 [0, 4, 6] [0, 1, 2, 3, 4, 5, 6, 7, 8, 9, 11, 10] [cT 5 5 [0, 1, 2, 3, 11] (C_run_runner_take o0_0 o0_1 o0_2 o0_3 o0_4 o0_5 o0_6 o0_7 o0_8 o0_9 o0_10 o0_11 o0_12 o0_13 o0_14 o0_15 o0_17 o0_18 o0_19 o0_20 o0_21 o0_22 o0_23 o0_24 o0_27 o0_28 o1 o3 ([] : List T_api_Alt) y11 hy11)] (norm ?_)
          refine At.sR [0, 4, 6, 8] [0, 1, 2, 3, 4, 5, 6, 7, 8, 9, 10, 11] [] ?_
          refine At.seqJ (S := Int) (fun s => ⟨[(0, .ptr 0 0), (6, i64 y2), (8, i64 s)], [.blk 81 [lv T_api_Ins.enc o0_0, lv T_api_Def.enc o0_1, lv T_api_Chan.enc o0_2, i64 o0_3, i64 o0_4, i64 o0_5, i64 o0_6, lv (eInt .i64) o0_7, i64 o0_8, i64 o0_9, i64 o0_10, i64 o0_11, i64 o0_12, i64 o0_13, i64 o0_14, lv T_api_Alt.enc o0_15, .ptr 1 0, i64 o0_17, i64 o0_18, i64 o0_19, i64 o0_20, i64 o0_21, i64 y11.1, i64 p1.A, i64 o0_24, .row 3 (o3).length, .row 10 ([] : List T_api_Alt).length, i64 o0_27, bo o0_28], .blk 123 [.row 2 (y11.2.l).length, i64 y11.2.most], .row 3 1 (encL (eInt .i64) y11.2.l), .row 3 1 (encL (eInt .i64) o3), .row 47 5 (encL T_api_Alt.enc o4), .ghost (gv 0) (.ptr 0 0), .ghost (gv 1) (.ptr 1 0), .ghost (gv 2) (.undef), .ghost (gv 3) (.row 3 0), .ghost (gv 4) (.row 4 0), .row 47 5 (encL T_api_Alt.enc ([]))]⟩) (fun s => F_run_runner_ends_J3 p1 o0_21 o0_24 o0_27 o3 y2 y11 s = some r) ?_ ?_
          · refine At.sR [0, 6, 8, 51] [0, 1, 2, 3, 4, 5, 6, 7, 8, 9, 10] [] ?_
            refine At.cd h (fun b15 h => ?_) (fun b15 h => ?_)
            · exact At.rK [0, 6, 8] [0, 1, 2, 3, 4, 5, 6, 7, 8, 9, 10] [] fun _ _ i => ⟨3, h, i⟩
            · refine At.nR [0, 6, 8] [0, 1, 2, 3, 4, 5, 6, 7, 8, 9, 10] ?_
              refine At.skip (fun _ _ i => ⟨2, h, i.en [] [0, 6, 8] [0, 1, 2, 3, 4, 5, 6, 7, 8, 9, 10]⟩)
          · intro x13 h
            obtain ⟨y14, hy14, h⟩ := bs h
            obtain rfl := sq h
            refine At.rG [] [0, 1, 2, 3, 4, 5, 6, 7, 8, 9, 10] [cT 3 5 [0, 1, 2, 3, 10] (C_run_runner_end x13 y2 o0_0 o0_1 o0_2 o0_3 o0_4 o0_5 o0_6 o0_7 o0_8 o0_9 o0_10 o0_11 o0_12 o0_13 o0_14 o0_15 o0_17 o0_18 o0_19 o0_20 o0_21 y11.1 p1.A o0_24 o0_27 o0_28 y11.2 o3 ([] : List T_api_Alt) y14 hy14)] (edq (l := [.hideG 8, .hideG 9]) (ks := []) (ρ := [0, 1, 2, 3, 4, 5, 6, 7, 8, 9, 10]) (st' := ⟨[], [.blk 81 [lv T_api_Ins.enc o0_0, lv T_api_Def.enc o0_1, lv T_api_Chan.enc o0_2, i64 o0_3, i64 o0_4, i64 o0_5, i64 o0_6, lv (eInt .i64) o0_7, i64 o0_8, i64 o0_9, i64 o0_10, i64 o0_11, i64 o0_12, i64 o0_13, i64 o0_14, lv T_api_Alt.enc o0_15, .ptr 1 0, i64 o0_17, i64 y14.1, i64 o0_19, i64 y14.2.1, i64 o0_21, i64 y11.1, i64 p1.A, i64 o0_24, .row 3 (o3).length, .row 10 ([] : List T_api_Alt).length, i64 o0_27, bo y14.2.2], .blk 123 [.row 2 (y11.2.l).length, i64 y11.2.most], .row 3 1 (encL (eInt .i64) y11.2.l), .row 3 1 (encL (eInt .i64) o3), .row 47 5 (encL T_api_Alt.enc o4), .ghost (gv 0) (.ptr 0 0), .ghost (gv 1) (.ptr 1 0), .ghost (gv 2) (.undef), .ghost (gv 3) (.undef), .ghost (gv 4) (.undef), .row 47 5 (encL T_api_Alt.enc ([]))]⟩) (by kernel_rfl) (At.rN hR [0, 1, 2, 3, 4, 10]))
        · refine At.sR [0, 4, 6, 7, 27, 56] [0, 1, 2, 3, 4, 5, 6, 7, 8, 9, 10] [] ?_
          refine At.cd h (fun b16 h => ?_) (fun b16 h => ?_)
          · refine At.seq ?_
            refine At.eds [.ownO 0 26 47 5] (st' := ⟨[(0, .ptr 0 0), (4, .ptr 10 0), (6, i64 y2), (7, .row 4 (o4).length), (27, i64 p1.Op), (56, bo (p1.Op == 10))], [.blk 81 [lv T_api_Ins.enc o0_0, lv T_api_Def.enc o0_1, lv T_api_Chan.enc o0_2, i64 o0_3, i64 o0_4, i64 o0_5, i64 o0_6, lv (eInt .i64) o0_7, i64 o0_8, i64 o0_9, i64 o0_10, i64 o0_11, i64 o0_12, i64 o0_13, i64 o0_14, lv T_api_Alt.enc o0_15, .ptr 1 0, i64 o0_17, i64 o0_18, i64 o0_19, i64 o0_20, i64 o0_21, i64 o0_22, i64 o0_23, i64 o0_24, .row 3 (o3).length, .row 11 ([] : List T_api_Alt).length, i64 o0_27, bo o0_28], .blk 123 [.row 2 (o1.l).length, i64 o1.most], .row 3 1 (encL (eInt .i64) o1.l), .row 3 1 (encL (eInt .i64) o3), .row 47 5 (encL T_api_Alt.enc o4), .ghost (gv 0) (.ptr 0 0), .ghost (gv 1) (.ptr 1 0), .ghost (gv 2) (.row 2 0), .ghost (gv 3) (.row 3 0), .ghost (gv 4) (.row 4 0), .blk 50 (T_api_Ins.pvs p1), .row 47 5 (encL T_api_Alt.enc ([]))]⟩) (by kernel_rfl) ?_
            obtain ⟨y18, hy18, h⟩ := bs h
            refine At.rG [0, 6] [0, 1, 2, 3, 4, 5, 6, 7, 8, 9, 11] [cT 2 5 [0, 1, 2, 3, 11] (C_run_runner_take o0_0 o0_1 o0_2 o0_3 o0_4 o0_5 o0_6 o0_7 o0_8 o0_9 o0_10 o0_11 o0_12 o0_13 o0_14 o0_15 o0_17 o0_18 o0_19 o0_20 o0_21 o0_22 o0_23 o0_24 o0_27 o0_28 o1 o3 ([] : List T_api_Alt) y18 hy18)] (norm ?_)
            obtain ⟨y20, hy20, h⟩ := bs h
            refine At.sR [0, 6] [0, 1, 2, 3, 4, 5, 6, 7, 8, 9, 10] [cT 2 5 [0, 1, 2, 3, 10] (C_run_runner_take o0_0 o0_1 o0_2 o0_3 o0_4 o0_5 o0_6 o0_7 o0_8 o0_9 o0_10 o0_11 o0_12 o0_13 o0_14 o0_15 o0_17 o0_18 o0_19 o0_20 o0_21 y18.1 o0_23 o0_24 o0_27 o0_28 y18.2 o3 ([] : List T_api_Alt) y20 hy20)] ?_
            obtain ⟨y22, hy22, h⟩ := bs h
            refine At.sR [0, 6, 77] [0, 1, 2, 3, 4, 5, 6, 7, 8, 9, 10] [cT 6 5 [0, 1, 2, 3, 10] (C_run_runner_none y20.1 o0_0 o0_1 o0_2 o0_3 o0_4 o0_5 o0_6 o0_7 o0_8 o0_9 o0_10 o0_11 o0_12 o0_13 o0_14 o0_15 o0_17 o0_18 o0_19 o0_20 y20.1 y18.1 o0_23 o0_24 o0_27 o0_28 y20.2 o3 ([] : List T_api_Alt) y22 hy22)] ?_
            refine At.cd h (fun b23 h => ?_) (fun b23 h => ?_)
            · obtain ⟨y24, hy24, h⟩ := bs h
              obtain rfl := sq h
              refine At.rG [] [0, 1, 2, 3, 4, 5, 6, 7, 8, 9, 10] [cT 2 5 [0, 1, 2, 3, 10] (C_run_runner_end 4 y2 o0_0 o0_1 o0_2 o0_3 o0_4 o0_5 o0_6 o0_7 o0_8 o0_9 o0_10 o0_11 o0_12 o0_13 o0_14 o0_15 o0_17 y22.2.1 o0_19 y22.2.2.1 y22.2.2.2.1 y22.2.2.2.2.1 y22.2.2.2.2.2.1 y22.2.2.2.2.2.2.1 y22.2.2.2.2.2.2.2.1 y22.2.2.2.2.2.2.2.2.1 y20.2 y22.2.2.2.2.2.2.2.2.2.1 y22.2.2.2.2.2.2.2.2.2.2 y24 hy24)] (edq (l := [.hideG 9]) (ks := []) (ρ := [0, 1, 2, 3, 4, 5, 6, 7, 8, 9, 10]) (st' := ⟨[], [.blk 81 [lv T_api_Ins.enc o0_0, lv T_api_Def.enc o0_1, lv T_api_Chan.enc o0_2, i64 o0_3, i64 o0_4, i64 o0_5, i64 o0_6, lv (eInt .i64) o0_7, i64 o0_8, i64 o0_9, i64 o0_10, i64 o0_11, i64 o0_12, i64 o0_13, i64 o0_14, lv T_api_Alt.enc o0_15, .ptr 1 0, i64 o0_17, i64 y24.1, i64 o0_19, i64 y24.2.1, i64 y22.2.2.2.1, i64 y22.2.2.2.2.1, i64 y22.2.2.2.2.2.1, i64 y22.2.2.2.2.2.2.1, .row 3 (y22.2.2.2.2.2.2.2.2.2.1).length, .row 10 (y22.2.2.2.2.2.2.2.2.2.2).length, i64 y22.2.2.2.2.2.2.2.1, bo y24.2.2], .blk 123 [.row 2 (y20.2.l).length, i64 y20.2.most], .row 3 1 (encL (eInt .i64) y20.2.l), .row 3 1 (encL (eInt .i64) y22.2.2.2.2.2.2.2.2.2.1), .row 47 5 (encL T_api_Alt.enc o4), .ghost (gv 0) (.ptr 0 0), .ghost (gv 1) (.ptr 1 0), .ghost (gv 2) (.undef), .ghost (gv 3) (.undef), .ghost (gv 4) (.undef), .row 47 5 (encL T_api_Alt.enc y22.2.2.2.2.2.2.2.2.2.2)]⟩) (by kernel_rfl) (At.rN hR [0, 1, 2, 3, 4, 10]))
            · refine At.nR [] [0, 1, 2, 3, 4, 5, 6, 7, 8, 9, 10] ?_
              obtain rfl := sq h
              refine At.skip (edq (l := [.hideG 9]) (ks := []) (ρ := [0, 1, 2, 3, 4, 5, 6, 7, 8, 9, 10]) (st' := ⟨[], [.blk 81 [lv T_api_Ins.enc o0_0, lv T_api_Def.enc o0_1, lv T_api_Chan.enc o0_2, i64 o0_3, i64 o0_4, i64 o0_5, i64 o0_6, lv (eInt .i64) o0_7, i64 o0_8, i64 o0_9, i64 o0_10, i64 o0_11, i64 o0_12, i64 o0_13, i64 o0_14, lv T_api_Alt.enc o0_15, .ptr 1 0, i64 o0_17, i64 y22.2.1, i64 o0_19, i64 y22.2.2.1, i64 y22.2.2.2.1, i64 y22.2.2.2.2.1, i64 y22.2.2.2.2.2.1, i64 y22.2.2.2.2.2.2.1, .row 3 (y22.2.2.2.2.2.2.2.2.2.1).length, .row 10 (y22.2.2.2.2.2.2.2.2.2.2).length, i64 y22.2.2.2.2.2.2.2.1, bo y22.2.2.2.2.2.2.2.2.1], .blk 123 [.row 2 (y20.2.l).length, i64 y20.2.most], .row 3 1 (encL (eInt .i64) y20.2.l), .row 3 1 (encL (eInt .i64) y22.2.2.2.2.2.2.2.2.2.1), .row 47 5 (encL T_api_Alt.enc o4), .ghost (gv 0) (.ptr 0 0), .ghost (gv 1) (.ptr 1 0), .ghost (gv 2) (.undef), .ghost (gv 3) (.undef), .ghost (gv 4) (.undef), .row 47 5 (encL T_api_Alt.enc y22.2.2.2.2.2.2.2.2.2.2)]⟩) (by kernel_rfl) (At.rN hR [0, 1, 2, 3, 4, 10]))
          · refine At.sR [0, 4, 6, 7, 27, 81] [0, 1, 2, 3, 4, 5, 6, 7, 8, 9, 10] [] ?_
            refine At.cd h (fun b25 h => ?_) (fun b25 h => ?_)
            · refine At.seq ?_
              refine At.eds [.ownO 0 26 47 5] (st' := ⟨[(0, .ptr 0 0), (4, .ptr 10 0), (6, i64 y2), (7, .row 4 (o4).length), (27, i64 p1.Op), (81, bo (p1.Op == 11))], [.blk 81 [lv T_api_Ins.enc o0_0, lv T_api_Def.enc o0_1, lv T_api_Chan.enc o0_2, i64 o0_3, i64 o0_4, i64 o0_5, i64 o0_6, lv (eInt .i64) o0_7, i64 o0_8, i64 o0_9, i64 o0_10, i64 o0_11, i64 o0_12, i64 o0_13, i64 o0_14, lv T_api_Alt.enc o0_15, .ptr 1 0, i64 o0_17, i64 o0_18, i64 o0_19, i64 o0_20, i64 o0_21, i64 o0_22, i64 o0_23, i64 o0_24, .row 3 (o3).length, .row 11 ([] : List T_api_Alt).length, i64 o0_27, bo o0_28], .blk 123 [.row 2 (o1.l).length, i64 o1.most], .row 3 1 (encL (eInt .i64) o1.l), .row 3 1 (encL (eInt .i64) o3), .row 47 5 (encL T_api_Alt.enc o4), .ghost (gv 0) (.ptr 0 0), .ghost (gv 1) (.ptr 1 0), .ghost (gv 2) (.row 2 0), .ghost (gv 3) (.row 3 0), .ghost (gv 4) (.row 4 0), .blk 50 (T_api_Ins.pvs p1), .row 47 5 (encL T_api_Alt.enc ([]))]⟩) (by kernel_rfl) ?_
              obtain ⟨y27, hy27, h⟩ := bs h
              refine At.dG 0 [0, 6] [0, 1, 2, 3, 4, 5, 6, 7, 8, 9, 11] [cT 5 5 [0, 1, 2, 3, 11] (C_run_runner_take o0_0 o0_1 o0_2 o0_3 o0_4 o0_5 o0_6 o0_7 o0_8 o0_9 o0_10 o0_11 o0_12 o0_13 o0_14 o0_15 o0_17 o0_18 o0_19 o0_20 o0_21 o0_22 o0_23 o0_24 o0_27 o0_28 o1 o3 ([] : List T_api_Alt) y27 hy27)] (norm ?_)
              obtain ⟨y29, hy29, h⟩ := bs h
              refine At.sR [0, 6, 102] [0, 1, 2, 3, 4, 5, 6, 7, 8, 9, 10] [cT 6 5 [0, 1, 2, 3, 10] (C_run_runner_none y27.1 o0_0 o0_1 o0_2 o0_3 o0_4 o0_5 o0_6 o0_7 o0_8 o0_9 o0_10 o0_11 o0_12 o0_13 o0_14 o0_15 o0_17 o0_18 o0_19 o0_20 y27.1 o0_22 p1.A o0_24 o0_27 o0_28 y27.2 o3 ([] : List T_api_Alt) y29 hy29)] ?_
              refine At.cd h (fun b30 h => ?_) (fun b30 h => ?_)
              · obtain ⟨y31, hy31, h⟩ := bs h
                obtain rfl := sq h
                refine At.rG [] [0, 1, 2, 3, 4, 5, 6, 7, 8, 9, 10] [cT 2 5 [0, 1, 2, 3, 10] (C_run_runner_end 5 y2 o0_0 o0_1 o0_2 o0_3 o0_4 o0_5 o0_6 o0_7 o0_8 o0_9 o0_10 o0_11 o0_12 o0_13 o0_14 o0_15 o0_17 y29.2.1 o0_19 y29.2.2.1 y29.2.2.2.1 y29.2.2.2.2.1 y29.2.2.2.2.2.1 y29.2.2.2.2.2.2.1 y29.2.2.2.2.2.2.2.1 y29.2.2.2.2.2.2.2.2.1 y27.2 y29.2.2.2.2.2.2.2.2.2.1 y29.2.2.2.2.2.2.2.2.2.2 y31 hy31)] (edq (l := [.hideG 9]) (ks := []) (ρ := [0, 1, 2, 3, 4, 5, 6, 7, 8, 9, 10]) (st' := ⟨[], [.blk 81 [lv T_api_Ins.enc o0_0, lv T_api_Def.enc o0_1, lv T_api_Chan.enc o0_2, i64 o0_3, i64 o0_4, i64 o0_5, i64 o0_6, lv (eInt .i64) o0_7, i64 o0_8, i64 o0_9, i64 o0_10, i64 o0_11, i64 o0_12, i64 o0_13, i64 o0_14, lv T_api_Alt.enc o0_15, .ptr 1 0, i64 o0_17, i64 y31.1, i64 o0_19, i64 y31.2.1, i64 y29.2.2.2.1, i64 y29.2.2.2.2.1, i64 y29.2.2.2.2.2.1, i64 y29.2.2.2.2.2.2.1, .row 3 (y29.2.2.2.2.2.2.2.2.2.1).length, .row 10 (y29.2.2.2.2.2.2.2.2.2.2).length, i64 y29.2.2.2.2.2.2.2.1, bo y31.2.2], .blk 123 [.row 2 (y27.2.l).length, i64 y27.2.most], .row 3 1 (encL (eInt .i64) y27.2.l), .row 3 1 (encL (eInt .i64) y29.2.2.2.2.2.2.2.2.2.1), .row 47 5 (encL T_api_Alt.enc o4), .ghost (gv 0) (.ptr 0 0), .ghost (gv 1) (.ptr 1 0), .ghost (gv 2) (.undef), .ghost (gv 3) (.undef), .ghost (gv 4) (.undef), .row 47 5 (encL T_api_Alt.enc y29.2.2.2.2.2.2.2.2.2.2)]⟩) (by kernel_rfl) (At.rN hR [0, 1, 2, 3, 4, 10]))
              · refine At.nR [] [0, 1, 2, 3, 4, 5, 6, 7, 8, 9, 10] ?_
                obtain rfl := sq h
                refine At.skip (edq (l := [.hideG 9]) (ks := []) (ρ := [0, 1, 2, 3, 4, 5, 6, 7, 8, 9, 10]) (st' := ⟨[], [.blk 81 [lv T_api_Ins.enc o0_0, lv T_api_Def.enc o0_1, lv T_api_Chan.enc o0_2, i64 o0_3, i64 o0_4, i64 o0_5, i64 o0_6, lv (eInt .i64) o0_7, i64 o0_8, i64 o0_9, i64 o0_10, i64 o0_11, i64 o0_12, i64 o0_13, i64 o0_14, lv T_api_Alt.enc o0_15, .ptr 1 0, i64 o0_17, i64 y29.2.1, i64 o0_19, i64 y29.2.2.1, i64 y29.2.2.2.1, i64 y29.2.2.2.2.1, i64 y29.2.2.2.2.2.1, i64 y29.2.2.2.2.2.2.1, .row 3 (y29.2.2.2.2.2.2.2.2.2.1).length, .row 10 (y29.2.2.2.2.2.2.2.2.2.2).length, i64 y29.2.2.2.2.2.2.2.1, bo y29.2.2.2.2.2.2.2.2.1], .blk 123 [.row 2 (y27.2.l).length, i64 y27.2.most], .row 3 1 (encL (eInt .i64) y27.2.l), .row 3 1 (encL (eInt .i64) y29.2.2.2.2.2.2.2.2.2.1), .row 47 5 (encL T_api_Alt.enc o4), .ghost (gv 0) (.ptr 0 0), .ghost (gv 1) (.ptr 1 0), .ghost (gv 2) (.undef), .ghost (gv 3) (.undef), .ghost (gv 4) (.undef), .row 47 5 (encL T_api_Alt.enc y29.2.2.2.2.2.2.2.2.2.2)]⟩) (by kernel_rfl) (At.rN hR [0, 1, 2, 3, 4, 10]))
            · refine At.seqJ (S := Bool) (fun s => ⟨[(0, .ptr 0 0), (4, .ptr 10 0), (6, i64 y2), (7, .row 4 (o4).length), (27, i64 p1.Op), (106, bo s)], [.blk 81 [lv T_api_Ins.enc o0_0, lv T_api_Def.enc o0_1, lv T_api_Chan.enc o0_2, i64 o0_3, i64 o0_4, i64 o0_5, i64 o0_6, lv (eInt .i64) o0_7, i64 o0_8, i64 o0_9, i64 o0_10, i64 o0_11, i64 o0_12, i64 o0_13, i64 o0_14, lv T_api_Alt.enc o0_15, .ptr 1 0, i64 o0_17, i64 o0_18, i64 o0_19, i64 o0_20, i64 o0_21, i64 o0_22, i64 o0_23, i64 o0_24, .row 3 (o3).length, .d (.list true 0 []), i64 o0_27, bo o0_28], .blk 123 [.row 2 (o1.l).length, i64 o1.most], .row 3 1 (encL (eInt .i64) o1.l), .row 3 1 (encL (eInt .i64) o3), .row 47 5 (encL T_api_Alt.enc o4), .ghost (gv 0) (.ptr 0 0), .ghost (gv 1) (.ptr 1 0), .ghost (gv 2) (.row 2 0), .ghost (gv 3) (.row 3 0), .ghost (gv 4) (.row 4 0), .blk 50 (T_api_Ins.pvs p1)]⟩) (fun s => F_run_runner_ends_J4 p1 o0_18 o0_20 o0_21 o0_22 o0_23 o0_24 o0_27 o0_28 o1 o3 o4 y2 s = some r) ?_ ?_
              · refine At.sR [0, 4, 6, 7, 27, 106] [0, 1, 2, 3, 4, 5, 6, 7, 8, 9, 10] [] ?_
                refine At.cd h (fun b63 h => ?_) (fun b63 h => ?_)
                · refine At.skip (fun _ _ i => ⟨(p1.Op == 13), h, i.en [] [0, 4, 6, 7, 27, 106] [0, 1, 2, 3, 4, 5, 6, 7, 8, 9, 10]⟩)
                · exact At.rK [0, 4, 6, 7, 27, 106] [0, 1, 2, 3, 4, 5, 6, 7, 8, 9, 10] [] fun _ _ i => ⟨(p1.Op == 15), h, i⟩
              · intro x33 h
                refine At.cd h (fun b34 h => ?_) (fun b34 h => ?_)
                · refine At.seq ?_
                  refine At.eds [.ownO 0 26 47 5] (st' := ⟨[(0, .ptr 0 0), (4, .ptr 10 0), (6, i64 y2), (7, .row 4 (o4).length), (27, i64 p1.Op), (106, bo x33)], [.blk 81 [lv T_api_Ins.enc o0_0, lv T_api_Def.enc o0_1, lv T_api_Chan.enc o0_2, i64 o0_3, i64 o0_4, i64 o0_5, i64 o0_6, lv (eInt .i64) o0_7, i64 o0_8, i64 o0_9, i64 o0_10, i64 o0_11, i64 o0_12, i64 o0_13, i64 o0_14, lv T_api_Alt.enc o0_15, .ptr 1 0, i64 o0_17, i64 o0_18, i64 o0_19, i64 o0_20, i64 o0_21, i64 o0_22, i64 o0_23, i64 o0_24, .row 3 (o3).length, .row 11 ([] : List T_api_Alt).length, i64 o0_27, bo o0_28], .blk 123 [.row 2 (o1.l).length, i64 o1.most], .row 3 1 (encL (eInt .i64) o1.l), .row 3 1 (encL (eInt .i64) o3), .row 47 5 (encL T_api_Alt.enc o4), .ghost (gv 0) (.ptr 0 0), .ghost (gv 1) (.ptr 1 0), .ghost (gv 2) (.row 2 0), .ghost (gv 3) (.row 3 0), .ghost (gv 4) (.row 4 0), .blk 50 (T_api_Ins.pvs p1), .row 47 5 (encL T_api_Alt.enc ([]))]⟩) (by kernel_rfl) ?_
                  obtain ⟨y36, hy36, h⟩ := bs h
                  refine At.rG [0, 4, 6] [0, 1, 2, 3, 4, 5, 6, 7, 8, 9, 11, 10] [cT 2 5 [0, 1, 2, 3, 11] (C_run_runner_take o0_0 o0_1 o0_2 o0_3 o0_4 o0_5 o0_6 o0_7 o0_8 o0_9 o0_10 o0_11 o0_12 o0_13 o0_14 o0_15 o0_17 o0_18 o0_19 o0_20 o0_21 o0_22 o0_23 o0_24 o0_27 o0_28 o1 o3 ([] : List T_api_Alt) y36 hy36)] (norm ?_)
                  refine At.sR [0, 4, 6, 9] [0, 1, 2, 3, 4, 5, 6, 7, 8, 9, 10, 11] [] ?_
                  refine At.seqJ (S := Int) (fun s => ⟨[(0, .ptr 0 0), (6, i64 y2), (9, i64 s)], [.blk 81 [lv T_api_Ins.enc o0_0, lv T_api_Def.enc o0_1, lv T_api_Chan.enc o0_2, i64 o0_3, i64 o0_4, i64 o0_5, i64 o0_6, lv (eInt .i64) o0_7, i64 o0_8, i64 o0_9, i64 o0_10, i64 o0_11, i64 o0_12, i64 o0_13, i64 o0_14, lv T_api_Alt.enc o0_15, .ptr 1 0, i64 o0_17, i64 o0_18, i64 o0_19, i64 o0_20, i64 o0_21, i64 y36.1, i64 o0_23, i64 o0_24, .row 3 (o3).length, .row 10 ([] : List T_api_Alt).length, i64 o0_27, bo o0_28], .blk 123 [.row 2 (y36.2.l).length, i64 y36.2.most], .row 3 1 (encL (eInt .i64) y36.2.l), .row 3 1 (encL (eInt .i64) o3), .row 47 5 (encL T_api_Alt.enc o4), .ghost (gv 0) (.ptr 0 0), .ghost (gv 1) (.ptr 1 0), .ghost (gv 2) (.undef), .ghost (gv 3) (.row 3 0), .ghost (gv 4) (.row 4 0), .row 47 5 (encL T_api_Alt.enc ([]))]⟩) (fun s => F_run_runner_ends_J5 o0_21 o0_23 o0_24 o0_27 o3 y2 y36 s = some r) ?_ ?_
                  · refine At.sR [0, 6, 9, 117] [0, 1, 2, 3, 4, 5, 6, 7, 8, 9, 10] [] ?_
                    refine At.cd h (fun b40 h => ?_) (fun b40 h => ?_)
                    · exact At.rK [0, 6, 9] [0, 1, 2, 3, 4, 5, 6, 7, 8, 9, 10] [] fun _ _ i => ⟨8, h, i⟩
                    · refine At.nR [0, 6, 9] [0, 1, 2, 3, 4, 5, 6, 7, 8, 9, 10] ?_
                      refine At.skip (fun _ _ i => ⟨6, h, i.en [] [0, 6, 9] [0, 1, 2, 3, 4, 5, 6, 7, 8, 9, 10]⟩)
                  · intro x38 h
                    obtain ⟨y39, hy39, h⟩ := bs h
                    obtain rfl := sq h
                    refine At.rG [] [0, 1, 2, 3, 4, 5, 6, 7, 8, 9, 10] [cT 3 5 [0, 1, 2, 3, 10] (C_run_runner_end x38 y2 o0_0 o0_1 o0_2 o0_3 o0_4 o0_5 o0_6 o0_7 o0_8 o0_9 o0_10 o0_11 o0_12 o0_13 o0_14 o0_15 o0_17 o0_18 o0_19 o0_20 o0_21 y36.1 o0_23 o0_24 o0_27 o0_28 y36.2 o3 ([] : List T_api_Alt) y39 hy39)] (edq (l := [.hideG 8, .hideG 9]) (ks := []) (ρ := [0, 1, 2, 3, 4, 5, 6, 7, 8, 9, 10]) (st' := ⟨[], [.blk 81 [lv T_api_Ins.enc o0_0, lv T_api_Def.enc o0_1, lv T_api_Chan.enc o0_2, i64 o0_3, i64 o0_4, i64 o0_5, i64 o0_6, lv (eInt .i64) o0_7, i64 o0_8, i64 o0_9, i64 o0_10, i64 o0_11, i64 o0_12, i64 o0_13, i64 o0_14, lv T_api_Alt.enc o0_15, .ptr 1 0, i64 o0_17, i64 y39.1, i64 o0_19, i64 y39.2.1, i64 o0_21, i64 y36.1, i64 o0_23, i64 o0_24, .row 3 (o3).length, .row 10 ([] : List T_api_Alt).length, i64 o0_27, bo y39.2.2], .blk 123 [.row 2 (y36.2.l).length, i64 y36.2.most], .row 3 1 (encL (eInt .i64) y36.2.l), .row 3 1 (encL (eInt .i64) o3), .row 47 5 (encL T_api_Alt.enc o4), .ghost (gv 0) (.ptr 0 0), .ghost (gv 1) (.ptr 1 0), .ghost (gv 2) (.undef), .ghost (gv 3) (.undef), .ghost (gv 4) (.undef), .row 47 5 (encL T_api_Alt.enc ([]))]⟩) (by kernel_rfl) (At.rN hR [0, 1, 2, 3, 4, 10]))
                · refine At.sR [0, 4, 6, 7, 27, 122] [0, 1, 2, 3, 4, 5, 6, 7, 8, 9, 10] [] ?_
                  refine At.cd h (fun b41 h => ?_) (fun b41 h => ?_)
                  · refine At.sR [0, 4, 6] [0, 1, 2, 3, 4, 5, 6, 7, 8, 9, 10] [] ?_
                    obtain ⟨y43, hy43, h⟩ := bs h
                    refine At.sD 1 [0, 6] [0, 1, 2, 3, 4, 5, 6, 7, 8, 9, 11] [cT 7 2 [1, 2, 11] (C_stack_Stack_int_Take p1.B o1 y43 hy43)] ?_
                    refine At.eds [.reO 0 26 4] (st' := ⟨[(0, .ptr 0 0), (6, i64 y2)], [.blk 81 [lv T_api_Ins.enc o0_0, lv T_api_Def.enc o0_1, lv T_api_Chan.enc o0_2, i64 o0_3, i64 o0_4, i64 o0_5, i64 o0_6, lv (eInt .i64) o0_7, i64 o0_8, i64 o0_9, i64 o0_10, i64 o0_11, i64 o0_12, i64 o0_13, i64 o0_14, lv T_api_Alt.enc o0_15, .ptr 1 0, i64 o0_17, i64 o0_18, i64 o0_19, i64 o0_20, i64 o0_21, i64 o0_22, i64 o0_23, i64 p1.A, .row 10 (y43.1).length, .row 4 ([] : List T_api_Alt).length, i64 o0_27, bo o0_28], .blk 123 [.row 2 (y43.2.2.l).length, i64 y43.2.2.most], .row 3 1 (encL (eInt .i64) y43.2.2.l), .row 3 1 (encL (eInt .i64) o3), .row 47 5 (encL T_api_Alt.enc ([])), .ghost (gv 0) (.ptr 0 0), .ghost (gv 1) (.ptr 1 0), .ghost (gv 2) (.undef), .ghost (gv 3) (.row 3 0), .ghost (gv 4) (.undef), .row 3 1 (encL (eInt .i64) y43.1)]⟩) (by kernel_rfl) ?_
                    obtain ⟨y44, hy44, h⟩ := bs h
                    obtain rfl := sq h
                    refine At.rG [] [0, 1, 2, 3, 4, 5, 6, 7, 8, 9, 10] [cT 2 5 [0, 1, 2, 10, 4] (C_run_runner_end 7 y2 o0_0 o0_1 o0_2 o0_3 o0_4 o0_5 o0_6 o0_7 o0_8 o0_9 o0_10 o0_11 o0_12 o0_13 o0_14 o0_15 o0_17 o0_18 o0_19 o0_20 o0_21 o0_22 o0_23 p1.A o0_27 o0_28 y43.2.2 y43.1 ([] : List T_api_Alt) y44 hy44)] (edq (l := [.hideG 8]) (ks := []) (ρ := [0, 1, 2, 3, 4, 5, 6, 7, 8, 9, 10]) (st' := ⟨[], [.blk 81 [lv T_api_Ins.enc o0_0, lv T_api_Def.enc o0_1, lv T_api_Chan.enc o0_2, i64 o0_3, i64 o0_4, i64 o0_5, i64 o0_6, lv (eInt .i64) o0_7, i64 o0_8, i64 o0_9, i64 o0_10, i64 o0_11, i64 o0_12, i64 o0_13, i64 o0_14, lv T_api_Alt.enc o0_15, .ptr 1 0, i64 o0_17, i64 y44.1, i64 o0_19, i64 y44.2.1, i64 o0_21, i64 o0_22, i64 o0_23, i64 p1.A, .row 10 (y43.1).length, .row 4 ([] : List T_api_Alt).length, i64 o0_27, bo y44.2.2], .blk 123 [.row 2 (y43.2.2.l).length, i64 y43.2.2.most], .row 3 1 (encL (eInt .i64) y43.2.2.l), .row 3 1 (encL (eInt .i64) o3), .row 47 5 (encL T_api_Alt.enc ([])), .ghost (gv 0) (.ptr 0 0), .ghost (gv 1) (.ptr 1 0), .ghost (gv 2) (.undef), .ghost (gv 3) (.undef), .ghost (gv 4) (.undef), .row 3 1 (encL (eInt .i64) y43.1)]⟩) (by kernel_rfl) (At.rN hR [0, 1, 2, 3, 4, 10]))
                  · refine At.sR [0, 6, 7, 27, 147] [0, 1, 2, 3, 4, 5, 6, 7, 8, 9] [] ?_
                    refine At.cd h (fun b45 h => ?_) (fun b45 h => ?_)
                    · refine At.seq ?_
                      refine At.seq ?_
                      refine At.eds [.ownO 0 26 47 5] (st' := ⟨[(0, .ptr 0 0), (6, i64 y2), (7, .row 4 (o4).length), (27, i64 p1.Op), (147, bo (p1.Op == 16))], [.blk 81 [lv T_api_Ins.enc o0_0, lv T_api_Def.enc o0_1, lv T_api_Chan.enc o0_2, i64 o0_3, i64 o0_4, i64 o0_5, i64 o0_6, lv (eInt .i64) o0_7, i64 o0_8, i64 o0_9, i64 o0_10, i64 o0_11, i64 o0_12, i64 o0_13, i64 o0_14, lv T_api_Alt.enc o0_15, .ptr 1 0, i64 o0_17, i64 o0_18, i64 o0_19, i64 o0_20, i64 o0_21, i64 o0_22, i64 o0_23, i64 o0_24, .row 3 (o3).length, .row 10 ([] : List T_api_Alt).length, i64 o0_27, bo o0_28], .blk 123 [.row 2 (o1.l).length, i64 o1.most], .row 3 1 (encL (eInt .i64) o1.l), .row 3 1 (encL (eInt .i64) o3), .row 47 5 (encL T_api_Alt.enc o4), .ghost (gv 0) (.ptr 0 0), .ghost (gv 1) (.ptr 1 0), .ghost (gv 2) (.row 2 0), .ghost (gv 3) (.row 3 0), .ghost (gv 4) (.row 4 0), .row 47 5 (encL T_api_Alt.enc ([]))]⟩) (by kernel_rfl) ?_
                      obtain ⟨y52, hy52, h⟩ := bs h
                      refine At.rG [0, 6, 151] [0, 1, 2, 3, 4, 5, 6, 7, 8, 9, 10] [cT 1 5 [0, 1, 2, 3, 10] (C_run_runner_take o0_0 o0_1 o0_2 o0_3 o0_4 o0_5 o0_6 o0_7 o0_8 o0_9 o0_10 o0_11 o0_12 o0_13 o0_14 o0_15 o0_17 o0_18 o0_19 o0_20 o0_21 o0_22 o0_23 o0_24 o0_27 o0_28 o1 o3 ([] : List T_api_Alt) y52 hy52)] (norm ?_)
                      refine At.cd h (fun b53 h => ?_) (fun b53 h => ?_)
                      · obtain ⟨y55, hy55, h⟩ := bs h
                        refine At.sR [] [0, 1, 2, 3, 4, 5, 6, 7, 8, 9, 10] [cT 1 5 [0, 1, 2, 3, 10] (C_run_runner_fault 6 o0_0 o0_1 o0_2 o0_3 o0_4 o0_5 o0_6 o0_7 o0_8 o0_9 o0_10 o0_11 o0_12 o0_13 o0_14 o0_15 o0_17 o0_18 o0_19 o0_20 o0_21 o0_22 o0_23 o0_24 o0_27 o0_28 y52.2 o3 ([] : List T_api_Alt) y55 hy55)] ?_
                        refine At.eN [.hideG 9] [] [0, 1, 2, 3, 4, 5, 6, 7, 8, 9, 10] ?_
                        obtain rfl := sq h
                        exact At.ret (At.rR hR [0, 1, 2, 3, 4, 10])
                      · refine At.nR [0, 6] [0, 1, 2, 3, 4, 5, 6, 7, 8, 9, 10] ?_
                        refine At.skip (norm ?_)
                        obtain ⟨y56, hy56, h⟩ := bs h
                        obtain rfl := sq h
                        refine At.rG [] [0, 1, 2, 3, 4, 5, 6, 7, 8, 9, 10] [cT 2 5 [0, 1, 2, 3, 10] (C_run_runner_end 1 y2 o0_0 o0_1 o0_2 o0_3 o0_4 o0_5 o0_6 o0_7 o0_8 o0_9 o0_10 o0_11 o0_12 o0_13 o0_14 o0_15 o0_17 o0_18 o0_19 o0_20 o0_21 o0_22 o0_23 o0_24 o0_27 o0_28 y52.2 o3 ([] : List T_api_Alt) y56 hy56)] (edq (l := [.hideG 8, .hideG 9]) (ks := []) (ρ := [0, 1, 2, 3, 4, 5, 6, 7, 8, 9, 10]) (st' := ⟨[], [.blk 81 [lv T_api_Ins.enc o0_0, lv T_api_Def.enc o0_1, lv T_api_Chan.enc o0_2, i64 o0_3, i64 o0_4, i64 o0_5, i64 o0_6, lv (eInt .i64) o0_7, i64 o0_8, i64 o0_9, i64 o0_10, i64 o0_11, i64 o0_12, i64 o0_13, i64 o0_14, lv T_api_Alt.enc o0_15, .ptr 1 0, i64 o0_17, i64 y56.1, i64 o0_19, i64 y56.2.1, i64 o0_21, i64 o0_22, i64 o0_23, i64 o0_24, .row 3 (o3).length, .row 10 ([] : List T_api_Alt).length, i64 o0_27, bo y56.2.2], .blk 123 [.row 2 (y52.2.l).length, i64 y52.2.most], .row 3 1 (encL (eInt .i64) y52.2.l), .row 3 1 (encL (eInt .i64) o3), .row 47 5 (encL T_api_Alt.enc o4), .ghost (gv 0) (.ptr 0 0), .ghost (gv 1) (.ptr 1 0), .ghost (gv 2) (.undef), .ghost (gv 3) (.undef), .ghost (gv 4) (.undef), .row 47 5 (encL T_api_Alt.enc ([]))]⟩) (by kernel_rfl) (At.rN hR [0, 1, 2, 3, 4, 10]))
                    · refine At.sR [0, 6, 7, 27, 157] [0, 1, 2, 3, 4, 5, 6, 7, 8, 9] [] ?_
                      refine At.cd h (fun b57 h => ?_) (fun b57 h => ?_)
                      · refine At.eds [.ownO 0 26 47 5] (st' := ⟨[(0, .ptr 0 0), (6, i64 y2), (7, .row 4 (o4).length), (27, i64 p1.Op), (157, bo (p1.Op == 17))], [.blk 81 [lv T_api_Ins.enc o0_0, lv T_api_Def.enc o0_1, lv T_api_Chan.enc o0_2, i64 o0_3, i64 o0_4, i64 o0_5, i64 o0_6, lv (eInt .i64) o0_7, i64 o0_8, i64 o0_9, i64 o0_10, i64 o0_11, i64 o0_12, i64 o0_13, i64 o0_14, lv T_api_Alt.enc o0_15, .ptr 1 0, i64 o0_17, i64 o0_18, i64 o0_19, i64 o0_20, i64 o0_21, i64 o0_22, i64 o0_23, i64 o0_24, .row 3 (o3).length, .row 10 ([] : List T_api_Alt).length, i64 o0_27, bo o0_28], .blk 123 [.row 2 (o1.l).length, i64 o1.most], .row 3 1 (encL (eInt .i64) o1.l), .row 3 1 (encL (eInt .i64) o3), .row 47 5 (encL T_api_Alt.enc o4), .ghost (gv 0) (.ptr 0 0), .ghost (gv 1) (.ptr 1 0), .ghost (gv 2) (.row 2 0), .ghost (gv 3) (.row 3 0), .ghost (gv 4) (.row 4 0), .row 47 5 (encL T_api_Alt.enc ([]))]⟩) (by kernel_rfl) ?_
                        obtain ⟨y58, hy58, h⟩ := bs h
                        obtain rfl := sq h
                        refine At.rG [] [0, 1, 2, 3, 4, 5, 6, 7, 8, 9, 10] [cT 2 5 [0, 1, 2, 3, 10] (C_run_runner_end 1 y2 o0_0 o0_1 o0_2 o0_3 o0_4 o0_5 o0_6 o0_7 o0_8 o0_9 o0_10 o0_11 o0_12 o0_13 o0_14 o0_15 o0_17 o0_18 o0_19 o0_20 o0_21 o0_22 o0_23 o0_24 o0_27 o0_28 o1 o3 ([] : List T_api_Alt) y58 hy58)] (edq (l := [.hideG 7, .hideG 8, .hideG 9]) (ks := []) (ρ := [0, 1, 2, 3, 4, 5, 6, 7, 8, 9, 10]) (st' := ⟨[], [.blk 81 [lv T_api_Ins.enc o0_0, lv T_api_Def.enc o0_1, lv T_api_Chan.enc o0_2, i64 o0_3, i64 o0_4, i64 o0_5, i64 o0_6, lv (eInt .i64) o0_7, i64 o0_8, i64 o0_9, i64 o0_10, i64 o0_11, i64 o0_12, i64 o0_13, i64 o0_14, lv T_api_Alt.enc o0_15, .ptr 1 0, i64 o0_17, i64 y58.1, i64 o0_19, i64 y58.2.1, i64 o0_21, i64 o0_22, i64 o0_23, i64 o0_24, .row 3 (o3).length, .row 10 ([] : List T_api_Alt).length, i64 o0_27, bo y58.2.2], .blk 123 [.row 2 (o1.l).length, i64 o1.most], .row 3 1 (encL (eInt .i64) o1.l), .row 3 1 (encL (eInt .i64) o3), .row 47 5 (encL T_api_Alt.enc o4), .ghost (gv 0) (.ptr 0 0), .ghost (gv 1) (.ptr 1 0), .ghost (gv 2) (.undef), .ghost (gv 3) (.undef), .ghost (gv 4) (.undef), .row 47 5 (encL T_api_Alt.enc ([]))]⟩) (by kernel_rfl) (At.rN hR [0, 1, 2, 3, 4, 10]))
                      · refine At.sR [0, 7, 27, 162] [0, 1, 2, 3, 4, 5, 6, 7, 8, 9] [] ?_
                        refine At.cd h (fun b59 h => ?_) (fun b59 h => ?_)
                        · refine At.eds [.ownO 0 26 47 5] (st' := ⟨[(0, .ptr 0 0), (7, .row 4 (o4).length), (27, i64 p1.Op), (162, bo (p1.Op == 18))], [.blk 81 [lv T_api_Ins.enc o0_0, lv T_api_Def.enc o0_1, lv T_api_Chan.enc o0_2, i64 o0_3, i64 o0_4, i64 o0_5, i64 o0_6, lv (eInt .i64) o0_7, i64 o0_8, i64 o0_9, i64 o0_10, i64 o0_11, i64 o0_12, i64 o0_13, i64 o0_14, lv T_api_Alt.enc o0_15, .ptr 1 0, i64 o0_17, i64 o0_18, i64 o0_19, i64 o0_20, i64 o0_21, i64 o0_22, i64 o0_23, i64 o0_24, .row 3 (o3).length, .row 10 ([] : List T_api_Alt).length, i64 o0_27, bo o0_28], .blk 123 [.row 2 (o1.l).length, i64 o1.most], .row 3 1 (encL (eInt .i64) o1.l), .row 3 1 (encL (eInt .i64) o3), .row 47 5 (encL T_api_Alt.enc o4), .ghost (gv 0) (.ptr 0 0), .ghost (gv 1) (.ptr 1 0), .ghost (gv 2) (.row 2 0), .ghost (gv 3) (.row 3 0), .ghost (gv 4) (.row 4 0), .row 47 5 (encL T_api_Alt.enc ([]))]⟩) (by kernel_rfl) ?_
                          obtain ⟨y60, hy60, h⟩ := bs h
                          obtain rfl := sq h
                          refine At.rG [] [0, 1, 2, 3, 4, 5, 6, 7, 8, 9, 10] [cT 1 5 [0, 1, 2, 3, 10] (C_run_runner_end 9 0 o0_0 o0_1 o0_2 o0_3 o0_4 o0_5 o0_6 o0_7 o0_8 o0_9 o0_10 o0_11 o0_12 o0_13 o0_14 o0_15 o0_17 o0_18 o0_19 o0_20 o0_21 o0_22 o0_23 o0_24 o0_27 o0_28 o1 o3 ([] : List T_api_Alt) y60 hy60)] (edq (l := [.hideG 7, .hideG 8, .hideG 9]) (ks := []) (ρ := [0, 1, 2, 3, 4, 5, 6, 7, 8, 9, 10]) (st' := ⟨[], [.blk 81 [lv T_api_Ins.enc o0_0, lv T_api_Def.enc o0_1, lv T_api_Chan.enc o0_2, i64 o0_3, i64 o0_4, i64 o0_5, i64 o0_6, lv (eInt .i64) o0_7, i64 o0_8, i64 o0_9, i64 o0_10, i64 o0_11, i64 o0_12, i64 o0_13, i64 o0_14, lv T_api_Alt.enc o0_15, .ptr 1 0, i64 o0_17, i64 y60.1, i64 o0_19, i64 y60.2.1, i64 o0_21, i64 o0_22, i64 o0_23, i64 o0_24, .row 3 (o3).length, .row 10 ([] : List T_api_Alt).length, i64 o0_27, bo y60.2.2], .blk 123 [.row 2 (o1.l).length, i64 o1.most], .row 3 1 (encL (eInt .i64) o1.l), .row 3 1 (encL (eInt .i64) o3), .row 47 5 (encL T_api_Alt.enc o4), .ghost (gv 0) (.ptr 0 0), .ghost (gv 1) (.ptr 1 0), .ghost (gv 2) (.undef), .ghost (gv 3) (.undef), .ghost (gv 4) (.undef), .row 47 5 (encL T_api_Alt.enc ([]))]⟩) (by kernel_rfl) (At.rN hR [0, 1, 2, 3, 4, 10]))
                        · refine At.sR [0, 7, 166] [0, 1, 2, 3, 4, 5, 6, 7, 8, 9] [] ?_
                          refine At.cd h (fun b61 h => ?_) (fun b61 h => ?_)
                          · refine At.seq ?_
                            refine At.rK (st' := ⟨[(0, .ptr 0 0)], [.blk 81 [lv T_api_Ins.enc o0_0, lv T_api_Def.enc o0_1, lv T_api_Chan.enc o0_2, i64 o0_3, i64 o0_4, i64 o0_5, i64 o0_6, lv (eInt .i64) o0_7, i64 o0_8, i64 o0_9, i64 o0_10, i64 o0_11, i64 o0_12, i64 o0_13, i64 o0_14, lv T_api_Alt.enc o0_15, .ptr 1 0, i64 o0_17, i64 o0_18, i64 o0_19, i64 o0_20, i64 o0_21, i64 o0_22, i64 o0_23, i64 o0_24, .row 3 (o3).length, .row 4 (o4).length, i64 o0_27, bo o0_28], .blk 123 [.row 2 (o1.l).length, i64 o1.most], .row 3 1 (encL (eInt .i64) o1.l), .row 3 1 (encL (eInt .i64) o3), .row 47 5 (encL T_api_Alt.enc o4), .ghost (gv 0) (.ptr 0 0), .ghost (gv 1) (.ptr 1 0), .ghost (gv 2) (.row 2 0), .ghost (gv 3) (.row 3 0), .ghost (gv 4) (.row 4 0)]⟩) [0] [0, 1, 2, 3, 4, 5, 6, 7, 8, 9] [] (norm ?_)
                            obtain ⟨y62, hy62, h⟩ := bs h
                            obtain rfl := sq h
                            refine At.rG [] [0, 1, 2, 3, 4, 5, 6, 7, 8, 9] [cT 1 5 [0, 1, 2, 3, 4] (C_run_runner_end 10 0 o0_0 o0_1 o0_2 o0_3 o0_4 o0_5 o0_6 o0_7 o0_8 o0_9 o0_10 o0_11 o0_12 o0_13 o0_14 o0_15 o0_17 o0_18 o0_19 o0_20 o0_21 o0_22 o0_23 o0_24 o0_27 o0_28 o1 o3 o4 y62 hy62)] (edq (l := [.hideG 7, .hideG 8, .hideG 9]) (ks := []) (ρ := [0, 1, 2, 3, 4, 5, 6, 7, 8, 9]) (st' := ⟨[], [.blk 81 [lv T_api_Ins.enc o0_0, lv T_api_Def.enc o0_1, lv T_api_Chan.enc o0_2, i64 o0_3, i64 o0_4, i64 o0_5, i64 o0_6, lv (eInt .i64) o0_7, i64 o0_8, i64 o0_9, i64 o0_10, i64 o0_11, i64 o0_12, i64 o0_13, i64 o0_14, lv T_api_Alt.enc o0_15, .ptr 1 0, i64 o0_17, i64 y62.1, i64 o0_19, i64 y62.2.1, i64 o0_21, i64 o0_22, i64 o0_23, i64 o0_24, .row 3 (o3).length, .row 4 (o4).length, i64 o0_27, bo y62.2.2], .blk 123 [.row 2 (o1.l).length, i64 o1.most], .row 3 1 (encL (eInt .i64) o1.l), .row 3 1 (encL (eInt .i64) o3), .row 47 5 (encL T_api_Alt.enc o4), .ghost (gv 0) (.ptr 0 0), .ghost (gv 1) (.ptr 1 0), .ghost (gv 2) (.undef), .ghost (gv 3) (.undef), .ghost (gv 4) (.undef)]⟩) (by kernel_rfl) (At.rN hR [0, 1, 2, 3, 4]))
                          · refine At.nK (st' := ⟨[], [.blk 81 [lv T_api_Ins.enc o0_0, lv T_api_Def.enc o0_1, lv T_api_Chan.enc o0_2, i64 o0_3, i64 o0_4, i64 o0_5, i64 o0_6, lv (eInt .i64) o0_7, i64 o0_8, i64 o0_9, i64 o0_10, i64 o0_11, i64 o0_12, i64 o0_13, i64 o0_14, lv T_api_Alt.enc o0_15, .ptr 1 0, i64 o0_17, i64 o0_18, i64 o0_19, i64 o0_20, i64 o0_21, i64 o0_22, i64 o0_23, i64 o0_24, .row 3 (o3).length, .d (.list true 0 []), i64 o0_27, bo o0_28], .blk 123 [.row 2 (o1.l).length, i64 o1.most], .row 3 1 (encL (eInt .i64) o1.l), .row 3 1 (encL (eInt .i64) o3), .row 47 5 (encL T_api_Alt.enc o4), .ghost (gv 0) (.ptr 0 0), .ghost (gv 1) (.ptr 1 0), .ghost (gv 2) (.row 2 0), .ghost (gv 3) (.row 3 0), .ghost (gv 4) (.row 4 0)]⟩) [] [0, 1, 2, 3, 4, 5, 6, 7, 8, 9] ?_
                            obtain rfl := sq h
                            refine At.skip (edq (l := [.hideG 7, .hideG 8, .hideG 9, .reO 0 26 4]) (ks := []) (ρ := [0, 1, 2, 3, 4, 5, 6, 7, 8, 9]) (st' := ⟨[], [.blk 81 [lv T_api_Ins.enc o0_0, lv T_api_Def.enc o0_1, lv T_api_Chan.enc o0_2, i64 o0_3, i64 o0_4, i64 o0_5, i64 o0_6, lv (eInt .i64) o0_7, i64 o0_8, i64 o0_9, i64 o0_10, i64 o0_11, i64 o0_12, i64 o0_13, i64 o0_14, lv T_api_Alt.enc o0_15, .ptr 1 0, i64 o0_17, i64 o0_18, i64 o0_19, i64 o0_20, i64 o0_21, i64 o0_22, i64 o0_23, i64 o0_24, .row 3 (o3).length, .row 4 ([] : List T_api_Alt).length, i64 o0_27, bo o0_28], .blk 123 [.row 2 (o1.l).length, i64 o1.most], .row 3 1 (encL (eInt .i64) o1.l), .row 3 1 (encL (eInt .i64) o3), .row 47 5 (encL T_api_Alt.enc ([])), .ghost (gv 0) (.ptr 0 0), .ghost (gv 1) (.ptr 1 0), .ghost (gv 2) (.undef), .ghost (gv 3) (.undef), .ghost (gv 4) (.undef)]⟩) (by kernel_rfl) (At.rN hR [0, 1, 2, 3, 4]))
theorem C_run_Step (p0 : T_api_Code) (p1 : T_api_Proc) (r : T_api_Effect) (h : F_run_Step p0 p1 = some r) : FnOK Tryz.prog 13 [.agg (T_api_Code.pvs p0), .agg (T_api_Proc.pvs p1)] [] (.agg (T_api_Effect.pvs r)) [] [] := by
  refine fI Tryz.func13 rfl fun E gv R hR => ?_
  refine At.sR [2, 3, 4] [0, 1, 2] [] ?_
  refine At.seq ?_
  refine At.seqJ (S := Bool) (fun s => ⟨[(2, .ptr 0 0), (3, .ptr 1 0), (4, .ptr 2 0), (16, bo s)], [.blk 27 (T_api_Code.pvs p0), .blk 38 (T_api_Proc.pvs p1), .blk 42 [i64 0, i64 0, i64 0, i64 0, i64 0, i64 0, i64 0, .d (.list true 0 []), .d (.list true 0 []), i64 0]]⟩) (fun s => F_run_Step_J1 p0 p1 s = some r) ?_ ?_
  · rcases cs h with ⟨b186, h⟩ | ⟨b186, h⟩
    · exact At.rK [2, 3, 4, 16] [0, 1, 2] [bT 3 b186] fun _ _ i => ⟨true, h, i⟩
    · obtain ⟨y187, hy187, h⟩ := bs h
      exact At.rK [2, 3, 4, 16] [0, 1, 2] [bT 3 b186, c0 7 (C_code_Stmt p0 p1.At y187 hy187)] fun _ _ i => ⟨(decide (y187 < 0)), h, i⟩
  · intro x9 h
    refine At.cd h (fun b10 h => ?_) (fun b10 h => ?_)
    · refine At.sR [4] [2] [] ?_
      refine At.eN [.loO 0] [4] [0] ?_
      obtain rfl := sq h
      exact At.ret (At.rR hR [])
    · refine At.nR [2, 3, 4] [0, 1, 2] ?_
      refine At.skip (norm ?_)
      obtain ⟨y13, hy13, h⟩ := bs h
      obtain ⟨y14, hy14, h⟩ := bs h
      refine At.sD 2 [2, 4, 5] [0, 2, 4, 3] [cT 2 0 [3] (C_stack_New_int 12 y13 hy13), eT T_api_Ins.enc_len 10 hy14] ?_
      refine At.seqJ (S := Int × Int × Int × Int × Int × Int × Int × Int × Bool × Int × (List Int) × (List Int) × (List T_api_Alt)) (fun s => ⟨[(4, .ptr 0 0), (5, .ptr 1 0)], [.blk 42 [i64 0, i64 0, i64 0, i64 0, i64 0, i64 0, i64 0, .d (.list true 0 []), .d (.list true 0 []), i64 0], .blk 81 (T_api_Code.pvs p0 ++ T_api_Proc.pvs p1 ++ [.ptr 2 0, i64 s.1, i64 s.2.1, i64 y14.A, i64 s.2.2.1, i64 s.2.2.2.1, i64 s.2.2.2.2.1, i64 s.2.2.2.2.2.1, i64 s.2.2.2.2.2.2.1, .row 4 (s.2.2.2.2.2.2.2.2.2.2.2.1).length, .row 5 (s.2.2.2.2.2.2.2.2.2.2.2.2).length, i64 s.2.2.2.2.2.2.2.1, bo s.2.2.2.2.2.2.2.2.1]), .blk 123 [.row 3 (s.2.2.2.2.2.2.2.2.2.2.1).length, i64 s.2.2.2.2.2.2.2.2.2.1], .row 3 1 (encL (eInt .i64) s.2.2.2.2.2.2.2.2.2.2.1), .row 3 1 (encL (eInt .i64) s.2.2.2.2.2.2.2.2.2.2.2.1), .row 47 5 (encL T_api_Alt.enc s.2.2.2.2.2.2.2.2.2.2.2.2)]⟩) (fun s => F_run_Step_J2 y14 s.2.1 s.2.2.1 s.2.2.2.1 s.2.2.2.2.1 s.2.2.2.2.2.1 s.2.2.2.2.2.2.1 s.2.2.2.2.2.2.2.1 s.2.2.2.2.2.2.2.2.2.2.2.1 s.2.2.2.2.2.2.2.2.2.2.2.2 = some r) ?_ ?_
      · refine At.sR [2, 4, 5, 36, 37] [0, 1, 2, 3] [] ?_
        refine At.block ?_
        refine At.nK (st' := ⟨[(2, .ptr 0 0), (4, .ptr 1 0), (5, .ptr 2 0), (36, i64 ((p0.Ins).length : Int)), (37, i64 0)], [.blk 27 (T_api_Code.pvs p0), .blk 42 [i64 0, i64 0, i64 0, i64 0, i64 0, i64 0, i64 0, .d (.list true 0 []), .d (.list true 0 []), i64 0], .blk 81 (T_api_Code.pvs p0 ++ T_api_Proc.pvs p1 ++ [.ptr 3 0, i64 (w64 (p1.At + 1)), i64 0, i64 y14.A, i64 0, i64 0, i64 0, i64 0, i64 0, .d (.list true 0 []), .d (.list true 0 []), i64 0, bo false]), .blk 123 [.d (.list true 0 []), i64 y13.most]]⟩) [2, 4, 5, 36, 37] [0, 1, 2, 3] ?_
        refine At.edNar [.ownO 3 0 3 1, .ownO 2 25 3 1, .ownO 2 26 47 5] [2, 4, 5, 36, 37] [0, 1, 2, 3, 4, 5, 6] (st' := ⟨[(2, .ptr 0 0), (4, .ptr 1 0), (5, .ptr 2 0), (36, i64 ((p0.Ins).length : Int)), (37, i64 0)], [.blk 27 (T_api_Code.pvs p0), .blk 42 [i64 0, i64 0, i64 0, i64 0, i64 0, i64 0, i64 0, .d (.list true 0 []), .d (.list true 0 []), i64 0], .blk 81 (T_api_Code.pvs p0 ++ T_api_Proc.pvs p1 ++ [.ptr 3 0, i64 (w64 (p1.At + 1)), i64 0, i64 y14.A, i64 0, i64 0, i64 0, i64 0, i64 0, .row 5 ([] : List Int).length, .row 6 ([] : List T_api_Alt).length, i64 0, bo false]), .blk 123 [.row 4 ([] : List Int).length, i64 y13.most], .row 3 1 (encL (eInt .i64) ([])), .row 3 1 (encL (eInt .i64) ([])), .row 47 5 (encL T_api_Alt.enc ([]))]⟩) (by kernel_rfl) ?_
        refine At.lp (fun s : (Int × Int × Int × Int × Int × Int × Int × Int × Int × Bool × Int × (List Int) × (List Int) × (List T_api_Alt)) => ⟨[(2, .ptr 0 0), (4, .ptr 1 0), (5, .ptr 2 0), (36, i64 ((p0.Ins).length : Int)), (37, i64 s.1)], [.blk 27 (T_api_Code.pvs p0), .blk 42 [i64 0, i64 0, i64 0, i64 0, i64 0, i64 0, i64 0, .d (.list true 0 []), .d (.list true 0 []), i64 0], .blk 81 (T_api_Code.pvs p0 ++ T_api_Proc.pvs p1 ++ [.ptr 3 0, i64 s.2.1, i64 s.2.2.1, i64 y14.A, i64 s.2.2.2.1, i64 s.2.2.2.2.1, i64 s.2.2.2.2.2.1, i64 s.2.2.2.2.2.2.1, i64 s.2.2.2.2.2.2.2.1, .row 5 (s.2.2.2.2.2.2.2.2.2.2.2.2.1).length, .row 6 (s.2.2.2.2.2.2.2.2.2.2.2.2.2).length, i64 s.2.2.2.2.2.2.2.2.1, bo s.2.2.2.2.2.2.2.2.2.1]), .blk 123 [.row 4 (s.2.2.2.2.2.2.2.2.2.2.2.1).length, i64 s.2.2.2.2.2.2.2.2.2.2.1], .row 3 1 (encL (eInt .i64) s.2.2.2.2.2.2.2.2.2.2.2.1), .row 3 1 (encL (eInt .i64) s.2.2.2.2.2.2.2.2.2.2.2.2.1), .row 47 5 (encL T_api_Alt.enc s.2.2.2.2.2.2.2.2.2.2.2.2.2)]⟩) h ?_
        rintro ⟨x107, x108, x109, x110, x111, x112, x113, x114, x115, x116, x117, x118, x119, x120⟩ oo121 h f122
        replace h : F_run_Step_L5 p0 p1 y14 x107 x108 x109 x110 x111 x112 x113 x114 x115 x116 x117 x118 x119 x120 = some oo121 := h
        refine At.sR [2, 4, 5, 36, 37, 38] [0, 1, 2, 3, 4, 5, 6] [] ?_
        refine At.seq ?_
        refine At.cd h (fun b124 h => ?_) (fun b124 h => ?_)
        · refine At.nR [2, 4, 5, 36, 37] [0, 1, 2, 3, 4, 5, 6] ?_
          refine At.skip (norm ?_)
          refine At.seqJ (S := Int × Int × Int × Int × Int × Int × Int × Int × Bool × Int × (List Int) × (List Int) × (List T_api_Alt)) (fun s => ⟨[(2, .ptr 0 0), (4, .ptr 1 0), (5, .ptr 2 0), (36, i64 ((p0.Ins).length : Int)), (37, i64 x107)], [.blk 27 (T_api_Code.pvs p0), .blk 42 [i64 0, i64 0, i64 0, i64 0, i64 0, i64 0, i64 0, .d (.list true 0 []), .d (.list true 0 []), i64 0], .blk 81 (T_api_Code.pvs p0 ++ T_api_Proc.pvs p1 ++ [.ptr 3 0, i64 s.1, i64 s.2.1, i64 y14.A, i64 s.2.2.1, i64 s.2.2.2.1, i64 s.2.2.2.2.1, i64 s.2.2.2.2.2.1, i64 s.2.2.2.2.2.2.1, .row 5 (s.2.2.2.2.2.2.2.2.2.2.2.1).length, .row 6 (s.2.2.2.2.2.2.2.2.2.2.2.2).length, i64 s.2.2.2.2.2.2.2.1, bo s.2.2.2.2.2.2.2.2.1]), .blk 123 [.row 4 (s.2.2.2.2.2.2.2.2.2.2.1).length, i64 s.2.2.2.2.2.2.2.2.2.1], .row 3 1 (encL (eInt .i64) s.2.2.2.2.2.2.2.2.2.2.1), .row 3 1 (encL (eInt .i64) s.2.2.2.2.2.2.2.2.2.2.2.1), .row 47 5 (encL T_api_Alt.enc s.2.2.2.2.2.2.2.2.2.2.2.2)]⟩) (fun s => F_run_Step_J3 x107 s.1 s.2.1 s.2.2.1 s.2.2.2.1 s.2.2.2.2.1 s.2.2.2.2.2.1 s.2.2.2.2.2.2.1 s.2.2.2.2.2.2.2.1 s.2.2.2.2.2.2.2.2.1 s.2.2.2.2.2.2.2.2.2.1 s.2.2.2.2.2.2.2.2.2.2.1 s.2.2.2.2.2.2.2.2.2.2.2.1 s.2.2.2.2.2.2.2.2.2.2.2.2 = some oo121) ?_ ?_
          · refine At.block ?_
            refine At.seq ?_
            refine At.seqJ (S := Bool) (fun s => ⟨[(2, .ptr 0 0), (4, .ptr 1 0), (5, .ptr 2 0), (36, i64 ((p0.Ins).length : Int)), (37, i64 x107), (59, bo s)], [.blk 27 (T_api_Code.pvs p0), .blk 42 [i64 0, i64 0, i64 0, i64 0, i64 0, i64 0, i64 0, .d (.list true 0 []), .d (.list true 0 []), i64 0], .blk 81 (T_api_Code.pvs p0 ++ T_api_Proc.pvs p1 ++ [.ptr 3 0, i64 x108, i64 x109, i64 y14.A, i64 x110, i64 x111, i64 x112, i64 x113, i64 x114, .row 5 (x119).length, .row 6 (x120).length, i64 x115, bo x116]), .blk 123 [.row 4 (x118).length, i64 x117], .row 3 1 (encL (eInt .i64) x118), .row 3 1 (encL (eInt .i64) x119), .row 47 5 (encL T_api_Alt.enc x120)]⟩) (fun s => F_run_Step_J4 p0 p1 y14 x107 x108 x109 x110 x111 x112 x113 x114 x115 x116 x117 x118 x119 x120 s = some oo121) ?_ ?_
            · rcases cs h with ⟨b182, h⟩ | ⟨b182, h⟩
              · exact At.dK 0 [2, 4, 5, 36, 37, 59] [0, 1, 2, 3, 4, 5, 6] [bT 4 b182] fun _ _ i => ⟨true, h, i⟩
              · rcases cs h with ⟨b183, h⟩ | ⟨b183, h⟩
                · exact At.dK 0 [2, 4, 5, 36, 37, 59] [0, 1, 2, 3, 4, 5, 6] [bT 4 b182, bT 11 b183] fun _ _ i => ⟨true, h, i⟩
                · exact At.dK 0 [2, 4, 5, 36, 37, 59] [0, 1, 2, 3, 4, 5, 6] [bT 4 b182, bT 11 b183] fun _ _ i => ⟨(decide (((p0.Ins).length : Int) ≤ x108)), h, i⟩
            · intro x168 h
              refine At.cd h (fun b169 h => ?_) (fun b169 h => ?_)
              · refine At.nR [4, 5] [1, 2, 3, 4, 5, 6] ?_
                obtain ⟨r170, h, e171⟩ := mr h
                rw [f122 _ e171] at h
                refine At.exit (fun _ _ i => ⟨(x108, x109, x110, x111, x112, x113, x114, x115, x116, x117, x118, x119, x120), h, i.en [] [4, 5] [0, 1, 2, 3, 4, 5]⟩)
              · refine At.nR [2, 4, 5, 36, 37] [0, 1, 2, 3, 4, 5, 6] ?_
                refine At.skip (norm ?_)
                refine At.sR [2, 4, 5, 6, 36, 37] [0, 1, 2, 3, 4, 5, 6] [] ?_
                refine At.sR [2, 4, 5, 6, 36, 37] [0, 1, 2, 3, 4, 5, 6] [] ?_
                obtain ⟨y174, hy174, h⟩ := bs h
                obtain ⟨y175, hy175, h⟩ := bs h
                refine At.sR [2, 4, 5, 6, 36, 37, 78] [0, 1, 2, 3, 4, 5, 6] [eT T_api_Ins.enc_len 4 hy174, cT 6 5 [2, 3, 4, 5, 6] (C_run_runner_reckons y174 p0.Ins p0.Defs p0.Chans p0.Main p0.Stmts p1.Def p1.At p1.Vars p1.Fuel p1.Mode p1.Chan p1.Val p1.Slot p1.Until p1.Since p1.Alts (w64 (x108 + 1)) x109 y14.A x110 x111 x112 x113 x114 x115 x116 (⟨x118, x117⟩ : T_stack_Stack_int_) x119 x120 y175 hy175)] ?_
                refine At.cd h (fun b176 h => ?_) (fun b176 h => ?_)
                · obtain ⟨y177, hy177, h⟩ := bs h
                  obtain ⟨y178, hy178, h⟩ := bs h
                  rcases y178 with y179 | (y180 | y181)
                  · exact At.rK [2, 4, 5, 36, 37] [0, 1, 2, 3, 4, 5, 7] [eT T_api_Ins.enc_len 4 hy177, cT 7 5 [2, 3, 4, 5, 6, 7] (C_run_runner_ends y177 x108 p0.Ins p0.Defs p0.Chans p0.Main p0.Stmts p1.Def p1.At p1.Vars p1.Fuel p1.Mode p1.Chan p1.Val p1.Slot p1.Until p1.Since p1.Alts y175.2.1 y175.2.2.1 y14.A y175.2.2.2.1 y175.2.2.2.2.1 y175.2.2.2.2.2.1 y175.2.2.2.2.2.2.1 y175.2.2.2.2.2.2.2.1 y175.2.2.2.2.2.2.2.2.1 y175.2.2.2.2.2.2.2.2.2.1 y175.2.2.2.2.2.2.2.2.2.2.1 y175.2.2.2.2.2.2.2.2.2.2.2.1 y175.2.2.2.2.2.2.2.2.2.2.2.2 (.inl y179) hy178)] fun _ _ i => ⟨(y175.2.1, y179.1, y179.2.1, y179.2.2.1, y179.2.2.2.1, y179.2.2.2.2.1, y179.2.2.2.2.2.1, y179.2.2.2.2.2.2.1, y179.2.2.2.2.2.2.2.1, y179.2.2.2.2.2.2.2.2.1.most, y179.2.2.2.2.2.2.2.2.1.l, y179.2.2.2.2.2.2.2.2.2.1, y179.2.2.2.2.2.2.2.2.2.2), h, i⟩
                  · exact At.rK [2, 4, 5, 36, 37] [0, 1, 2, 3, 4, 7, 6] [eT T_api_Ins.enc_len 4 hy177, cT 7 5 [2, 3, 4, 5, 6, 7] (C_run_runner_ends y177 x108 p0.Ins p0.Defs p0.Chans p0.Main p0.Stmts p1.Def p1.At p1.Vars p1.Fuel p1.Mode p1.Chan p1.Val p1.Slot p1.Until p1.Since p1.Alts y175.2.1 y175.2.2.1 y14.A y175.2.2.2.1 y175.2.2.2.2.1 y175.2.2.2.2.2.1 y175.2.2.2.2.2.2.1 y175.2.2.2.2.2.2.2.1 y175.2.2.2.2.2.2.2.2.1 y175.2.2.2.2.2.2.2.2.2.1 y175.2.2.2.2.2.2.2.2.2.2.1 y175.2.2.2.2.2.2.2.2.2.2.2.1 y175.2.2.2.2.2.2.2.2.2.2.2.2 (.inr (.inl y180)) hy178)] fun _ _ i => ⟨(y175.2.1, y180.1, y180.2.1, y175.2.2.2.2.1, y175.2.2.2.2.2.1, y175.2.2.2.2.2.2.1, y180.2.2.1, y175.2.2.2.2.2.2.2.2.1, y180.2.2.2.1, y180.2.2.2.2.1.most, y180.2.2.2.2.1.l, y180.2.2.2.2.2.2, y180.2.2.2.2.2.1), h, i⟩
                  · exact At.rK [2, 4, 5, 36, 37] [0, 1, 2, 3, 4, 5, 6] [eT T_api_Ins.enc_len 4 hy177, cT 7 5 [2, 3, 4, 5, 6] (C_run_runner_ends y177 x108 p0.Ins p0.Defs p0.Chans p0.Main p0.Stmts p1.Def p1.At p1.Vars p1.Fuel p1.Mode p1.Chan p1.Val p1.Slot p1.Until p1.Since p1.Alts y175.2.1 y175.2.2.1 y14.A y175.2.2.2.1 y175.2.2.2.2.1 y175.2.2.2.2.2.1 y175.2.2.2.2.2.2.1 y175.2.2.2.2.2.2.2.1 y175.2.2.2.2.2.2.2.2.1 y175.2.2.2.2.2.2.2.2.2.1 y175.2.2.2.2.2.2.2.2.2.2.1 y175.2.2.2.2.2.2.2.2.2.2.2.1 y175.2.2.2.2.2.2.2.2.2.2.2.2 (.inr (.inr y181)) hy178)] fun _ _ i => ⟨(y175.2.1, y181.1, y181.2.1, y175.2.2.2.2.1, y175.2.2.2.2.2.1, y175.2.2.2.2.2.2.1, y175.2.2.2.2.2.2.2.1, y175.2.2.2.2.2.2.2.2.1, y181.2.2.1, y175.2.2.2.2.2.2.2.2.2.2.1.most, y175.2.2.2.2.2.2.2.2.2.2.1.l, y175.2.2.2.2.2.2.2.2.2.2.2.1, y181.2.2.2), h, i⟩
                · refine At.nR [2, 4, 5, 36, 37] [0, 1, 2, 3, 4, 5, 6] ?_
                  refine At.skip (fun _ _ i => ⟨(y175.2.1, y175.2.2.1, y175.2.2.2.1, y175.2.2.2.2.1, y175.2.2.2.2.2.1, y175.2.2.2.2.2.2.1, y175.2.2.2.2.2.2.2.1, y175.2.2.2.2.2.2.2.2.1, y175.2.2.2.2.2.2.2.2.2.1, y175.2.2.2.2.2.2.2.2.2.2.1.most, y175.2.2.2.2.2.2.2.2.2.2.1.l, y175.2.2.2.2.2.2.2.2.2.2.2.1, y175.2.2.2.2.2.2.2.2.2.2.2.2), h, i.en [] [2, 4, 5, 36, 37] [0, 1, 2, 3, 4, 5, 6]⟩)
          · rintro ⟨x147, x148, x149, x150, x151, x152, x153, x154, x155, x156, x157, x158, x159⟩ h
            replace h : F_run_Step_J3 x107 x147 x148 x149 x150 x151 x152 x153 x154 x155 x156 x157 x158 x159 = some oo121 := h
            exact At.rK [2, 4, 5, 36, 37] [0, 1, 2, 3, 4, 5, 6] [] fun _ _ i => ⟨_, li h, i⟩
        · refine At.nR [4, 5] [1, 2, 3, 4, 5, 6] ?_
          obtain ⟨r184, h, e185⟩ := mr h
          rw [f122 _ e185] at h
          refine At.exit (fun _ _ i => ⟨(x108, x109, x110, x111, x112, x113, x114, x115, x116, x117, x118, x119, x120), h, i.en [] [4, 5] [0, 1, 2, 3, 4, 5]⟩)
      · rintro ⟨x94, x95, x96, x97, x98, x99, x100, x101, x102, x103, x104, x105, x106⟩ h
        replace h : F_run_Step_J2 y14 x95 x96 x97 x98 x99 x100 x101 x105 x106 = some r := h
        refine At.sR [4] [0, 4, 5] [] ?_
        refine At.eN [.settle 1, .settle 2] [4] [0] ?_
        obtain rfl := sq h
        exact At.ret (At.rR hR [])
theorem C_slices_Equal_int_int (p0 : (List Int)) (p1 : (List Int)) (r : Bool) (h : F_slices_Equal_int_int p0 p1 = some r) : FnOK Tryz.prog 35 [lv (eInt .i64) p0, lv (eInt .i64) p1] [] (bo r) [] [] := by
  refine fI Tryz.func35 rfl fun E gv R hR => ?_
  refine At.sR [0, 1] [] [] ?_
  refine At.seq ?_
  refine At.sR [0, 1, 10] [] [] ?_
  refine At.cd h (fun b2 h => ?_) (fun b2 h => ?_)
  · refine At.sR [4] [] [] ?_
    obtain rfl := sq h
    exact At.ret (At.rR hR [])
  · refine At.nR [0, 1] [] ?_
    refine At.skip (norm ?_)
    refine At.seq ?_
    refine At.sR [0, 1, 12, 13] [] [] ?_
    refine At.block ?_
    refine At.nK (st' := ⟨[(0, lv (eInt .i64) p0), (1, lv (eInt .i64) p1), (12, i64 ((p0).length : Int)), (13, i64 0)], []⟩) [0, 1, 12, 13] [] ?_
    refine At.lp (fun s : (Int) => ⟨[(0, lv (eInt .i64) p0), (1, lv (eInt .i64) p1), (12, i64 ((p0).length : Int)), (13, i64 s)], []⟩) h ?_
    intro x22 oo23 h f24
    replace h : F_slices_Equal_int_int_L1 p0 p1 x22 = some oo23 := h
    refine At.sR [0, 1, 12, 13, 14] [] [] ?_
    refine At.seq ?_
    refine At.cd h (fun b26 h => ?_) (fun b26 h => ?_)
    · refine At.nR [0, 1, 12, 13] [] ?_
      refine At.skip (norm ?_)
      refine At.seq ?_
      refine At.block ?_
      refine At.sR [0, 1, 5, 12, 13] [] [] ?_
      obtain ⟨y34, hy34, h⟩ := bs h
      obtain ⟨y35, hy35, h⟩ := bs h
      refine At.sD 0 [0, 1, 12, 13, 24] [] [eT (he_int .i64) 2 hy34, eT (he_int .i64) 6 hy35] ?_
      refine At.cd h (fun b36 h => ?_) (fun b36 h => ?_)
      · refine At.sR [4] [] [] ?_
        obtain ⟨r37, h, e38⟩ := mr h
        rw [f24 _ e38] at h
        obtain rfl := sq h
        exact At.ret (At.rR hR [])
      · refine At.nR [0, 1, 12, 13] [] ?_
        refine At.skip (norm ?_)
        exact At.rK [0, 1, 12, 13] [] [] fun _ _ i => ⟨_, li h, i⟩
    · refine At.nR [] [] ?_
      obtain ⟨r39, h, e40⟩ := mr h
      rw [f24 _ e40] at h
      refine At.exit (norm ?_)
      refine At.sR [4] [] [] ?_
      obtain rfl := sq h
      exact At.ret (At.rR hR [])
theorem C_slices_Equal_retrace_api_Alt_retrace_api_Alt (p0 : (List T_api_Alt)) (p1 : (List T_api_Alt)) (r : Bool) (h : F_slices_Equal_retrace_api_Alt_retrace_api_Alt p0 p1 = some r) : FnOK Tryz.prog 36 [lv T_api_Alt.enc p0, lv T_api_Alt.enc p1] [] (bo r) [] [] := by
  refine fI Tryz.func36 rfl fun E gv R hR => ?_
  refine At.sR [0, 1] [] [] ?_
  refine At.seq ?_
  refine At.sR [0, 1, 10] [] [] ?_
  refine At.cd h (fun b2 h => ?_) (fun b2 h => ?_)
  · refine At.sR [4] [] [] ?_
    obtain rfl := sq h
    exact At.ret (At.rR hR [])
  · refine At.nR [0, 1] [] ?_
    refine At.skip (norm ?_)
    refine At.seq ?_
    refine At.sR [0, 1, 12, 13] [] [] ?_
    refine At.block ?_
    refine At.nK (st' := ⟨[(0, lv T_api_Alt.enc p0), (1, lv T_api_Alt.enc p1), (12, i64 ((p0).length : Int)), (13, i64 0)], []⟩) [0, 1, 12, 13] [] ?_
    refine At.lp (fun s : (Int) => ⟨[(0, lv T_api_Alt.enc p0), (1, lv T_api_Alt.enc p1), (12, i64 ((p0).length : Int)), (13, i64 s)], []⟩) h ?_
    intro x22 oo23 h f24
    replace h : F_slices_Equal_retrace_api_Alt_retrace_api_Alt_L1 p0 p1 x22 = some oo23 := h
    refine At.sR [0, 1, 12, 13, 14] [] [] ?_
    refine At.seq ?_
    refine At.cd h (fun b26 h => ?_) (fun b26 h => ?_)
    · refine At.nR [0, 1, 12, 13] [] ?_
      refine At.skip (norm ?_)
      refine At.seq ?_
      refine At.block ?_
      refine At.sR [0, 1, 5, 12, 13] [] [] ?_
      obtain ⟨y34, hy34, h⟩ := bs h
      obtain ⟨y35, hy35, h⟩ := bs h
      refine At.sD 0 [0, 1, 12, 13, 24] [] [eT T_api_Alt.enc_len 2 hy34, eT T_api_Alt.enc_len 6 hy35] ?_
      refine At.cd h (fun b36 h => ?_) (fun b36 h => ?_)
      · refine At.sR [4] [] [] ?_
        obtain ⟨r37, h, e38⟩ := mr h
        rw [f24 _ e38] at h
        obtain rfl := sq h
        exact At.ret (At.rR hR [])
      · refine At.nR [0, 1, 12, 13] [] ?_
        refine At.skip (norm ?_)
        exact At.rK [0, 1, 12, 13] [] [] fun _ _ i => ⟨_, li h, i⟩
    · refine At.nR [] [] ?_
      obtain ⟨r39, h, e40⟩ := mr h
      rw [f24 _ e40] at h
      refine At.exit (norm ?_)
      refine At.sR [4] [] [] ?_
      obtain rfl := sq h
      exact At.ret (At.rR hR [])
theorem C_run_Same (p0 : T_api_Effect) (p1 : T_api_Effect) (r : Bool) (h : F_run_Same p0 p1 = some r) : FnOK Tryz.prog 16 [.agg (T_api_Effect.pvs p0), .agg (T_api_Effect.pvs p1)] [] (bo r) [] [] := by
  refine fI Tryz.func16 rfl fun E gv R hR => ?_
  refine At.sR [2, 3] [0, 1] [] ?_
  refine At.seqJ (S := Bool) (fun s => ⟨[(4, bo s)], []⟩) (fun s => F_run_Same_J1 s = some r) ?_ ?_
  · rcases cs h with ⟨b13, h⟩ | ⟨b13, h⟩
    · rcases cs h with ⟨b14, h⟩ | ⟨b14, h⟩
      · rcases cs h with ⟨b15, h⟩ | ⟨b15, h⟩
        · rcases cs h with ⟨b16, h⟩ | ⟨b16, h⟩
          · rcases cs h with ⟨b17, h⟩ | ⟨b17, h⟩
            · rcases cs h with ⟨b18, h⟩ | ⟨b18, h⟩
              · rcases cs h with ⟨b19, h⟩ | ⟨b19, h⟩
                · rcases cs h with ⟨b20, h⟩ | ⟨b20, h⟩
                  · obtain ⟨y21, hy21, h⟩ := bs h
                    rcases cs h with ⟨b22, h⟩ | ⟨b22, h⟩
                    · obtain ⟨y23, hy23, h⟩ := bs h
                      exact At.rK [4] [] [bT 5 b13, bT 12 b14, bT 19 b15, bT 26 b16, bT 33 b17, bT 40 b18, bT 47 b19, bT 54 b20, c0 59 (C_slices_Equal_int_int p0.Args p1.Args y21 hy21), bT 61 b22, c0 66 (C_slices_Equal_retrace_api_Alt_retrace_api_Alt p0.Alts p1.Alts y23 hy23)] fun _ _ i => ⟨y23, h, i⟩
                    · exact At.rK [4] [] [bT 5 b13, bT 12 b14, bT 19 b15, bT 26 b16, bT 33 b17, bT 40 b18, bT 47 b19, bT 54 b20, c0 59 (C_slices_Equal_int_int p0.Args p1.Args y21 hy21), bT 61 b22] fun _ _ i => ⟨false, h, i⟩
                  · exact At.rK [4] [] [bT 5 b13, bT 12 b14, bT 19 b15, bT 26 b16, bT 33 b17, bT 40 b18, bT 47 b19, bT 54 b20] fun _ _ i => ⟨false, h, i⟩
                · exact At.rK [4] [] [bT 5 b13, bT 12 b14, bT 19 b15, bT 26 b16, bT 33 b17, bT 40 b18, bT 47 b19] fun _ _ i => ⟨false, h, i⟩
              · exact At.rK [4] [] [bT 5 b13, bT 12 b14, bT 19 b15, bT 26 b16, bT 33 b17, bT 40 b18] fun _ _ i => ⟨false, h, i⟩
            · exact At.rK [4] [] [bT 5 b13, bT 12 b14, bT 19 b15, bT 26 b16, bT 33 b17] fun _ _ i => ⟨false, h, i⟩
          · exact At.rK [4] [] [bT 5 b13, bT 12 b14, bT 19 b15, bT 26 b16] fun _ _ i => ⟨false, h, i⟩
        · exact At.rK [4] [] [bT 5 b13, bT 12 b14, bT 19 b15] fun _ _ i => ⟨false, h, i⟩
      · exact At.rK [4] [] [bT 5 b13, bT 12 b14] fun _ _ i => ⟨false, h, i⟩
    · exact At.rK [4] [] [bT 5 b13] fun _ _ i => ⟨false, h, i⟩
  · intro x12 h
    obtain rfl := sq h
    exact At.ret (At.rR hR [])
theorem C_retracelaw24_live  (r : Bool) (h : F_retracelaw24_live  = some r) : FnOK Tryz.prog 12 [] [] (bo r) [] [] := by
  refine fI Tryz.func12 rfl fun E gv R hR => ?_
  refine At.sR [] [] [] ?_
  obtain ⟨y2, hy2, h⟩ := bs h
  refine At.sR [1] [0] [c0 0 (C_retraceref19_Text (⟨#[109, 97, 105, 110, 32, 123, 32, 118, 97, 114, 32, 120, 32, 61, 32, 49, 32, 47, 32, 48, 59, 32, 125]⟩ : ByteArray) y2 hy2)] ?_
  obtain ⟨y4, hy4, h⟩ := bs h
  refine At.sR [2] [2] [cX 3 0 [] [1] true (C_run_Step y2.C (⟨0, 0, [0], 1, 0, 0, 0, 0, 0, 0, ([] : (List T_api_Alt))⟩ : T_api_Proc) y4 hy4)] ?_
  refine At.seqJ (S := Bool) (fun s => ⟨[(0, bo s)], []⟩) (fun s => F_retracelaw24_live_J1 s = some r) ?_ ?_
  · rcases cs h with ⟨b10, h⟩ | ⟨b10, h⟩
    · rcases cs h with ⟨b11, h⟩ | ⟨b11, h⟩
      · rcases cs h with ⟨b12, h⟩ | ⟨b12, h⟩
        · obtain ⟨y13, hy13, h⟩ := bs h
          exact At.rK [0] [] [bT 3 b10, bT 8 b11, bT 13 b12, c0 16 (C_run_Same y4 y4 y13 hy13)] fun _ _ i => ⟨y13, h, i⟩
        · exact At.rK [0] [] [bT 3 b10, bT 8 b11, bT 13 b12] fun _ _ i => ⟨false, h, i⟩
      · exact At.rK [0] [] [bT 3 b10, bT 8 b11] fun _ _ i => ⟨false, h, i⟩
    · exact At.rK [0] [] [bT 3 b10] fun _ _ i => ⟨false, h, i⟩
  · intro x9 h
    obtain rfl := sq h
    exact At.ret (At.rR hR [])
theorem C_retraceref20_Stmt (p0 : T_api_Code) (p1 : Int) (r : Int) (h : F_retraceref20_Stmt p0 p1 = some r) : FnOK Tryz.prog 14 [.agg (T_api_Code.pvs p0), i64 p1] [] (i64 r) [] [] := by
  refine fI Tryz.func14 rfl fun E gv R hR => ?_
  refine At.sR [1, 2] [0] [] ?_
  refine At.seq ?_
  refine At.seqJ (S := Bool) (fun s => ⟨[(1, i64 p1), (2, .ptr 0 0), (22, bo s)], [.blk 27 (T_api_Code.pvs p0)]⟩) (fun s => F_retraceref20_Stmt_J1 p0 p1 s = some r) ?_ ?_
  · rcases cs h with ⟨b18, h⟩ | ⟨b18, h⟩
    · rcases cs h with ⟨b19, h⟩ | ⟨b19, h⟩
      · obtain ⟨y20, hy20, h⟩ := bs h
        exact At.rK [1, 2, 22] [0] [bT 2 b18, bT 9 b19, eT T_api_Ins.enc_len 13 hy20] fun _ _ i => ⟨(y20.Op == 1), h, i⟩
      · exact At.rK [1, 2, 22] [0] [bT 2 b18, bT 9 b19] fun _ _ i => ⟨false, h, i⟩
    · exact At.rK [1, 2, 22] [0] [bT 2 b18] fun _ _ i => ⟨false, h, i⟩
  · intro x14 h
    refine At.cd h (fun b15 h => ?_) (fun b15 h => ?_)
    · obtain ⟨y17, hy17, h⟩ := bs h
      refine At.sR [4] [] [eT T_api_Ins.enc_len 3 hy17] ?_
      obtain rfl := sq h
      exact At.ret (At.rR hR [])
    · refine At.nR [] [] ?_
      refine At.skip (norm ?_)
      refine At.sR [4] [] [] ?_
      obtain rfl := sq h
      exact At.ret (At.rR hR [])
theorem C_retracelaw24_RunRests (p0 : T_api_Code) (p1 : T_api_Proc) (r : Bool) (h : F_retracelaw24_RunRests p0 p1 = some r) : FnOK Tryz.prog 4 [.agg (T_api_Code.pvs p0), .agg (T_api_Proc.pvs p1)] [] (bo r) [] [] := by
  refine fI Tryz.func4 rfl fun E gv R hR => ?_
  refine At.sR [2, 3] [0, 1] [] ?_
  refine At.seq ?_
  refine At.seqJ (S := Bool) (fun s => ⟨[(2, .ptr 0 0), (3, .ptr 1 0), (25, bo s)], [.blk 27 (T_api_Code.pvs p0), .blk 38 (T_api_Proc.pvs p1)]⟩) (fun s => F_retracelaw24_RunRests_J1 p0 p1 s = some r) ?_ ?_
  · obtain ⟨y154, hy154, h⟩ := bs h
    rcases cs h with ⟨b155, h⟩ | ⟨b155, h⟩
    · exact At.rK [2, 3, 25] [0, 1] [c0 2 (C_retracelaw24_large p0 p1 y154 hy154), bT 3 b155] fun _ _ i => ⟨true, h, i⟩
    · obtain ⟨y156, hy156, h⟩ := bs h
      rcases cs h with ⟨b157, h⟩ | ⟨b157, h⟩
      · exact At.rK [2, 3, 25] [0, 1] [c0 2 (C_retracelaw24_large p0 p1 y154 hy154), bT 3 b155, c0 5 (C_retraceref20_Right p0 y156 hy156), bT 8 b157] fun _ _ i => ⟨true, h, i⟩
      · obtain ⟨y158, hy158, h⟩ := bs h
        rcases cs h with ⟨b159, h⟩ | ⟨b159, h⟩
        · exact At.rK [2, 3, 25] [0, 1] [c0 2 (C_retracelaw24_large p0 p1 y154 hy154), bT 3 b155, c0 5 (C_retraceref20_Right p0 y156 hy156), bT 8 b157, c0 11 (C_retraceref22_Is p0 p1 y158 hy158), bT 14 b159] fun _ _ i => ⟨true, h, i⟩
        · exact At.rK [2, 3, 25] [0, 1] [c0 2 (C_retracelaw24_large p0 p1 y154 hy154), bT 3 b155, c0 5 (C_retraceref20_Right p0 y156 hy156), bT 8 b157, c0 11 (C_retraceref22_Is p0 p1 y158 hy158), bT 14 b159] fun _ _ i => ⟨(p1.Mode != 0), h, i⟩
  · intro x23 h
    refine At.cd h (fun b24 h => ?_) (fun b24 h => ?_)
    · obtain ⟨y26, hy26, h⟩ := bs h
      refine At.sR [4] [] [c0 0 (C_retracelaw24_live y26 hy26)] ?_
      obtain rfl := sq h
      exact At.ret (At.rR hR [])
    · refine At.nR [2, 3] [0, 1] ?_
      refine At.skip (norm ?_)
      obtain ⟨y28, hy28, h⟩ := bs h
      refine At.sR [2, 3, 5] [0, 1, 2] [c0 2 (C_run_Step p0 p1 y28 hy28)] ?_
      refine At.seq ?_
      refine At.seqJ (S := Bool) (fun s => ⟨[(2, .ptr 0 0), (3, .ptr 1 0), (5, .ptr 2 0), (55, bo s)], [.blk 27 (T_api_Code.pvs p0), .blk 38 (T_api_Proc.pvs p1), .blk 42 (T_api_Effect.pvs y28)]⟩) (fun s => F_retracelaw24_RunRests_J2 p0 p1 y28 s = some r) ?_ ?_
      · rcases cs h with ⟨b150, h⟩ | ⟨b150, h⟩
        · exact At.dK 0 [2, 3, 5, 55] [0, 1, 2] [bT 3 b150] fun _ _ i => ⟨true, h, i⟩
        · rcases cs h with ⟨b151, h⟩ | ⟨b151, h⟩
          · exact At.dK 0 [2, 3, 5, 55] [0, 1, 2] [bT 3 b150, bT 8 b151] fun _ _ i => ⟨true, h, i⟩
          · obtain ⟨y152, hy152, h⟩ := bs h
            rcases cs h with ⟨b153, h⟩ | ⟨b153, h⟩
            · exact At.dK 0 [2, 3, 5, 55] [0, 1, 2] [bT 3 b150, bT 8 b151, c0 14 (C_retraceref20_Stmt p0 p1.At y152 hy152), bT 17 b153] fun _ _ i => ⟨true, h, i⟩
            · exact At.dK 0 [2, 3, 5, 55] [0, 1, 2] [bT 3 b150, bT 8 b151, c0 14 (C_retraceref20_Stmt p0 p1.At y152 hy152), bT 17 b153] fun _ _ i => ⟨(!((y28.Fault != 0) == (y28.Kind == 11))), h, i⟩
      · intro x43 h
        refine At.cd h (fun b44 h => ?_) (fun b44 h => ?_)
        · refine At.sR [4] [] [] ?_
          obtain rfl := sq h
          exact At.ret (At.rR hR [])
        · refine At.nR [2, 3, 5] [0, 1, 2] ?_
          refine At.skip (norm ?_)
          refine At.seq ?_
          refine At.sR [2, 3, 5, 6] [0, 1, 2] [] ?_
          refine At.block ?_
          refine At.nK (st' := ⟨[(2, .ptr 0 0), (3, .ptr 1 0), (5, .ptr 2 0), (6, i64 0)], [.blk 27 (T_api_Code.pvs p0), .blk 38 (T_api_Proc.pvs p1), .blk 42 (T_api_Effect.pvs y28)]⟩) [2, 3, 5, 6] [0, 1, 2] ?_
          refine At.lp (fun s : (Int) => ⟨[(2, .ptr 0 0), (3, .ptr 1 0), (5, .ptr 2 0), (6, i64 s)], [.blk 27 (T_api_Code.pvs p0), .blk 38 (T_api_Proc.pvs p1), .blk 42 (T_api_Effect.pvs y28)]⟩) h ?_
          intro x82 oo83 h f84
          replace h : F_retracelaw24_RunRests_L7 p0 p1 y28 x82 = some oo83 := h
          refine At.seq ?_
          refine At.sR [2, 3, 5, 6, 60] [0, 1, 2] [] ?_
          refine At.cd h (fun b86 h => ?_) (fun b86 h => ?_)
          · refine At.nR [2, 3, 5, 6] [0, 1, 2] ?_
            refine At.skip (norm ?_)
            refine At.seq ?_
            refine At.block ?_
            refine At.seqJ (S := Bool) (fun s => ⟨[(2, .ptr 0 0), (3, .ptr 1 0), (5, .ptr 2 0), (6, i64 x82), (91, bo s)], [.blk 27 (T_api_Code.pvs p0), .blk 38 (T_api_Proc.pvs p1), .blk 42 (T_api_Effect.pvs y28)]⟩) (fun s => F_retracelaw24_RunRests_J3 x82 s = some oo83) ?_ ?_
            · obtain ⟨y111, hy111, h⟩ := bs h
              obtain ⟨y112, hy112, h⟩ := bs h
              rcases cs h with ⟨b113, h⟩ | ⟨b113, h⟩
              · exact At.dK 0 [2, 3, 5, 6, 91] [0, 1, 2] [eT T_api_Alt.enc_len 6 hy111, c0 9 (C_retraceref22_Rests p0 p1.Def y111.Goto y112 hy112), bT 11 b113] fun _ _ i => ⟨true, h, i⟩
              · obtain ⟨y114, hy114, h⟩ := bs h
                rcases cs h with ⟨b115, h⟩ | ⟨b115, h⟩
                · exact At.dK 0 [2, 3, 5, 6, 91] [0, 1, 2] [eT T_api_Alt.enc_len 6 hy111, c0 9 (C_retraceref22_Rests p0 p1.Def y111.Goto y112 hy112), bT 11 b113, eT T_api_Alt.enc_len 15 hy114, bT 20 b115] fun _ _ i => ⟨true, h, i⟩
                · obtain ⟨y116, hy116, h⟩ := bs h
                  exact At.dK 0 [2, 3, 5, 6, 91] [0, 1, 2] [eT T_api_Alt.enc_len 6 hy111, c0 9 (C_retraceref22_Rests p0 p1.Def y111.Goto y112 hy112), bT 11 b113, eT T_api_Alt.enc_len 15 hy114, bT 20 b115, eT T_api_Alt.enc_len 24 hy116] fun _ _ i => ⟨(decide (4 < y116.Kind)), h, i⟩
            · intro x107 h
              refine At.cd h (fun b108 h => ?_) (fun b108 h => ?_)
              · refine At.sR [4] [] [] ?_
                obtain ⟨r109, h, e110⟩ := mr h
                rw [f84 _ e110] at h
                obtain rfl := sq h
                exact At.ret (At.rR hR [])
              · refine At.nR [2, 3, 5, 6] [0, 1, 2] ?_
                refine At.skip (norm ?_)
                exact At.rK [2, 3, 5, 6] [0, 1, 2] [] fun _ _ i => ⟨_, li h, i⟩
          · refine At.nR [2, 3, 5] [0, 1, 2] ?_
            obtain ⟨r117, h, e118⟩ := mr h
            rw [f84 _ e118] at h
            refine At.exit (norm ?_)
            refine At.seq ?_
            refine At.seqJ (S := Bool) (fun s => ⟨[(2, .ptr 0 0), (3, .ptr 1 0), (5, .ptr 2 0), (104, bo s)], [.blk 27 (T_api_Code.pvs p0), .blk 38 (T_api_Proc.pvs p1), .blk 42 (T_api_Effect.pvs y28)]⟩) (fun s => F_retracelaw24_RunRests_J4 p0 p1 y28 s = some r) ?_ ?_
            · rcases cs h with ⟨b148, h⟩ | ⟨b148, h⟩
              · exact At.rK [2, 3, 5, 104] [0, 1, 2] [bT 3 b148] fun _ _ i => ⟨true, h, i⟩
              · rcases cs h with ⟨b149, h⟩ | ⟨b149, h⟩
                · exact At.rK [2, 3, 5, 104] [0, 1, 2] [bT 3 b148, bT 8 b149] fun _ _ i => ⟨true, h, i⟩
                · exact At.rK [2, 3, 5, 104] [0, 1, 2] [bT 3 b148, bT 8 b149] fun _ _ i => ⟨(y28.Kind == 11), h, i⟩
            · intro x132 h
              refine At.cd h (fun b133 h => ?_) (fun b133 h => ?_)
              · refine At.seqJ (S := Bool) (fun s => ⟨[(4, bo s)], []⟩) (fun s => F_retracelaw24_RunRests_J5 s = some r) ?_ ?_
                · rcases cs h with ⟨b137, h⟩ | ⟨b137, h⟩
                  · obtain ⟨y138, hy138, h⟩ := bs h
                    exact At.rK [4] [] [bT 3 b137, c0 4 (C_retracelaw24_live y138 hy138)] fun _ _ i => ⟨y138, h, i⟩
                  · exact At.rK [4] [] [bT 3 b137] fun _ _ i => ⟨false, h, i⟩
                · intro x136 h
                  obtain rfl := sq h
                  exact At.ret (At.rR hR [])
              · refine At.nR [2, 3, 5] [0, 1, 2] ?_
                refine At.skip (norm ?_)
                refine At.seqJ (S := Bool) (fun s => ⟨[(4, bo s)], []⟩) (fun s => F_retracelaw24_RunRests_J6 s = some r) ?_ ?_
                · rcases cs h with ⟨b144, h⟩ | ⟨b144, h⟩
                  · obtain ⟨y145, hy145, h⟩ := bs h
                    rcases cs h with ⟨b146, h⟩ | ⟨b146, h⟩
                    · obtain ⟨y147, hy147, h⟩ := bs h
                      exact At.rK [4] [] [bT 4 b144, c0 10 (C_retraceref22_Rests p0 p1.Def y28.At y145 hy145), bT 12 b146, c0 13 (C_retracelaw24_live y147 hy147)] fun _ _ i => ⟨y147, h, i⟩
                    · exact At.rK [4] [] [bT 4 b144, c0 10 (C_retraceref22_Rests p0 p1.Def y28.At y145 hy145), bT 12 b146] fun _ _ i => ⟨false, h, i⟩
                  · exact At.rK [4] [] [bT 4 b144] fun _ _ i => ⟨false, h, i⟩
                · intro x143 h
                  obtain rfl := sq h
                  exact At.ret (At.rR hR [])
end Go.Ab
