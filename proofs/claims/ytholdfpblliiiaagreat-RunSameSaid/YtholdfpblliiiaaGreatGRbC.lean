import Derived.Test.YtholdfpblliiiaaGreatGRb
namespace Go.Ab
open Go.Proofs
set_option linter.unusedVariables false
set_option maxRecDepth 100000
theorem C_retraceref19_Text (p0 : ByteArray) (r : T_retraceref19_Got) (h : F_retraceref19_Text p0 = some r) : FnOK Tryz.prog 7 [sv p0] [] (.agg (T_retraceref19_Got.pvs r)) [] [] :=
  ran_ok okText_14 (pv := fun r => .agg (T_retraceref19_Got.pvs r)) ran_Text rfl h
theorem C_code_Stmt (p0 : T_api_Code) (p1 : Int) (r : Int) (h : F_code_Stmt p0 p1 = some r) : FnOK Tryz.prog 19 [.agg (T_api_Code.pvs p0), i64 p1] [] (i64 r) [] [] := by
  refine fI Tryz.func19 rfl fun E gv R hR => ?_
  refine At.sR [1, 2] [0] [] ?_
  refine At.seq ?_
  refine At.seqJ (S := Bool) (fun s => ⟨[(1, i64 p1), (2, .ptr 0 0), (22, bo s)], [.blk 27 (T_api_Code.pvs p0)]⟩) (fun s => F_code_Stmt_J1 p0 p1 s = some r) ?_ ?_
  · rcases cs h with ⟨b16, h⟩ | ⟨b16, h⟩
    · exact At.rK [1, 2, 22] [0] [bT 2 b16] fun _ _ i => ⟨true, h, i⟩
    · rcases cs h with ⟨b17, h⟩ | ⟨b17, h⟩
      · exact At.rK [1, 2, 22] [0] [bT 2 b16, bT 9 b17] fun _ _ i => ⟨true, h, i⟩
      · obtain ⟨y18, hy18, h⟩ := bs h
        exact At.rK [1, 2, 22] [0] [bT 2 b16, bT 9 b17, eT T_api_Ins.enc_len 13 hy18] fun _ _ i => ⟨(y18.Op != 1), h, i⟩
  · intro x12 h
    refine At.cd h (fun b13 h => ?_) (fun b13 h => ?_)
    · refine At.sR [4] [] [] ?_
      obtain rfl := sq h
      exact At.ret (At.rR hR [])
    · refine At.nR [1, 2] [0] ?_
      refine At.skip (norm ?_)
      obtain ⟨y15, hy15, h⟩ := bs h
      refine At.sR [4] [] [eT T_api_Ins.enc_len 3 hy15] ?_
      obtain rfl := sq h
      exact At.ret (At.rR hR [])
theorem C_stack_New_int (p0 : Int) (r : T_stack_Stack_int_) (h : F_stack_New_int p0 = some r) : FnOK Tryz.prog 32 [i64 p0] [] (.ptr 0 0) [.blk 123 [.d (.list true 0 []), i64 r.most]] [] := by
  refine fI Tryz.func32 rfl fun E gv R hR => ?_
  refine At.sR [0] [] [] ?_
  refine At.sR [2] [0] [] ?_
  obtain rfl := sq h
  exact At.ret (At.rR hR [0])
theorem C_stack_Stack_int_Room (o0 : T_stack_Stack_int_) (r : Int) (h : F_stack_Stack_int_Room o0 = some r) : FnOK Tryz.prog 146 [.ptr 0 0] [.blk 123 [.row 1 (o0.l).length, i64 o0.most], .row 3 1 (encL (eInt .i64) o0.l)] (i64 r) [.blk 123 [.row 1 (o0.l).length, i64 o0.most], .row 3 1 (encL (eInt .i64) o0.l)] [1, 2] := by
  refine fI Tryz.func146 rfl fun E gv R hR => ?_
  refine At.sR [0] [0, 1, 2, 3] [] ?_
  refine At.seq ?_
  refine At.sR [0, 4] [0, 1, 2, 3] [] ?_
  refine At.cn ?_
  refine At.nR [0] [0, 1, 2, 3] ?_
  refine At.skip (norm ?_)
  refine At.sD 0 [2] [0, 1, 2, 3] [] ?_
  obtain rfl := sq h
  exact At.ret (At.rR hR [0, 1])
theorem C_stack_Stack_int_Push (p1 : Int) (o0 : T_stack_Stack_int_) (r : Bool × T_stack_Stack_int_) (h : F_stack_Stack_int_Push p1 o0 = some r) : FnOK Tryz.prog 107 [.ptr 0 0, i64 p1] [.blk 123 [.row 1 (o0.l).length, i64 o0.most], .row 3 1 (encL (eInt .i64) o0.l)] (bo r.1) [.blk 123 [.row 1 (r.2.l).length, i64 r.2.most], .row 3 1 (encL (eInt .i64) r.2.l)] [1, 2, 3] := by
  refine fI Tryz.func107 rfl fun E gv R hR => ?_
  refine At.sR [0, 1] [0, 1, 2, 3] [] ?_
  refine At.seq ?_
  obtain ⟨y5, hy5, h⟩ := bs h
  refine At.sR [0, 1, 7] [0, 1, 2, 3] [cT 1 2 [0, 1] (C_stack_Stack_int_Room o0 y5 hy5)] ?_
  refine At.cd h (fun b6 h => ?_) (fun b6 h => ?_)
  · refine At.sR [4] [0, 1, 2, 3] [] ?_
    refine At.eN [.hideG 3] [4] [0, 1, 2, 3] ?_
    obtain rfl := sq h
    exact At.ret (At.rR hR [0, 1])
  · refine At.nR [0, 1] [0, 1, 2, 3] ?_
    refine At.skip (norm ?_)
    obtain ⟨g8, h⟩ := gs h
    refine At.sR [] [0, 1, 2, 3] [aT (he_int .i64) 7 o0.l ([p1]) rfl g8] ?_
    refine At.sR [4] [0, 1, 2, 3] [] ?_
    obtain rfl := sq h
    exact At.ret (At.rR hR [0, 1])
theorem C_run_runner_end (p1 : Int) (p2 : Int) (o0_0 : (List T_api_Ins)) (o0_1 : (List T_api_Def)) (o0_2 : (List T_api_Chan)) (o0_3 : Int) (o0_4 : Int) (o0_5 : Int) (o0_6 : Int) (o0_8 : Int) (o0_9 : Int) (o0_10 : Int) (o0_11 : Int) (o0_12 : Int) (o0_13 : Int) (o0_14 : Int) (o0_15 : (List T_api_Alt)) (o0_17 : Int) (o0_18 : Int) (o0_19 : Int) (o0_20 : Int) (o0_21 : Int) (o0_22 : Int) (o0_23 : Int) (o0_24 : Int) (o0_27 : Int) (o0_28 : Bool) (o2 : T_stack_Stack_int_) (o1 : (List Int)) (o4 : (List Int)) (o5 : (List T_api_Alt)) (r : (List T_api_Ins) × (List T_api_Def) × (List T_api_Chan) × Int × Int × Int × Int × Int × Int × Int × Int × Int × Int × Int × (List T_api_Alt) × Int × Int × Int × Int × Int × Int × Int × Int × Int × Bool) (h : F_run_runner_end p1 p2 o0_0 o0_1 o0_2 o0_3 o0_4 o0_5 o0_6 o0_8 o0_9 o0_10 o0_11 o0_12 o0_13 o0_14 o0_15 o0_17 o0_18 o0_19 o0_20 o0_21 o0_22 o0_23 o0_24 o0_27 o0_28 o2 o1 o4 o5 = some r) : FnOK Tryz.prog 71 [.ptr 0 0, i64 p1, i64 p2] [.blk 81 [lv T_api_Ins.enc o0_0, lv T_api_Def.enc o0_1, lv T_api_Chan.enc o0_2, i64 o0_3, i64 o0_4, i64 o0_5, i64 o0_6, .row 1 (o1).length, i64 o0_8, i64 o0_9, i64 o0_10, i64 o0_11, i64 o0_12, i64 o0_13, i64 o0_14, lv T_api_Alt.enc o0_15, .ptr 2 0, i64 o0_17, i64 o0_18, i64 o0_19, i64 o0_20, i64 o0_21, i64 o0_22, i64 o0_23, i64 o0_24, .row 4 (o4).length, .row 5 (o5).length, i64 o0_27, bo o0_28], .row 3 1 (encL (eInt .i64) o1), .blk 123 [.row 3 (o2.l).length, i64 o2.most], .row 3 1 (encL (eInt .i64) o2.l), .row 3 1 (encL (eInt .i64) o4), .row 47 5 (encL T_api_Alt.enc o5)] (.tup []) [.blk 81 [lv T_api_Ins.enc r.1, lv T_api_Def.enc r.2.1, lv T_api_Chan.enc r.2.2.1, i64 r.2.2.2.1, i64 r.2.2.2.2.1, i64 r.2.2.2.2.2.1, i64 r.2.2.2.2.2.2.1, .row 1 (o1).length, i64 r.2.2.2.2.2.2.2.1, i64 r.2.2.2.2.2.2.2.2.1, i64 r.2.2.2.2.2.2.2.2.2.1, i64 r.2.2.2.2.2.2.2.2.2.2.1, i64 r.2.2.2.2.2.2.2.2.2.2.2.1, i64 r.2.2.2.2.2.2.2.2.2.2.2.2.1, i64 r.2.2.2.2.2.2.2.2.2.2.2.2.2.1, lv T_api_Alt.enc r.2.2.2.2.2.2.2.2.2.2.2.2.2.2.1, .ptr 2 0, i64 r.2.2.2.2.2.2.2.2.2.2.2.2.2.2.2.1, i64 r.2.2.2.2.2.2.2.2.2.2.2.2.2.2.2.2.1, i64 r.2.2.2.2.2.2.2.2.2.2.2.2.2.2.2.2.2.1, i64 r.2.2.2.2.2.2.2.2.2.2.2.2.2.2.2.2.2.2.1, i64 r.2.2.2.2.2.2.2.2.2.2.2.2.2.2.2.2.2.2.2.1, i64 r.2.2.2.2.2.2.2.2.2.2.2.2.2.2.2.2.2.2.2.2.1, i64 r.2.2.2.2.2.2.2.2.2.2.2.2.2.2.2.2.2.2.2.2.2.1, i64 r.2.2.2.2.2.2.2.2.2.2.2.2.2.2.2.2.2.2.2.2.2.2.1, .row 4 (o4).length, .row 5 (o5).length, i64 r.2.2.2.2.2.2.2.2.2.2.2.2.2.2.2.2.2.2.2.2.2.2.2.1, bo r.2.2.2.2.2.2.2.2.2.2.2.2.2.2.2.2.2.2.2.2.2.2.2.2], .row 3 1 (encL (eInt .i64) o1), .blk 123 [.row 3 (o2.l).length, i64 o2.most], .row 3 1 (encL (eInt .i64) o2.l), .row 3 1 (encL (eInt .i64) o4), .row 47 5 (encL T_api_Alt.enc o5)] [1, 2, 5, 6, 8, 10] := by
  refine fI Tryz.func71 rfl fun E gv R hR => ?_
  obtain rfl := sq h
  refine At.rG [] [0, 1, 2, 3, 4, 5, 6, 7, 8, 9, 10, 11] [] (edq (l := []) (ks := []) (ρ := [0, 1, 2, 3, 4, 5, 6, 7, 8, 9, 10, 11]) (st' := ⟨[], [.blk 81 [lv T_api_Ins.enc o0_0, lv T_api_Def.enc o0_1, lv T_api_Chan.enc o0_2, i64 o0_3, i64 o0_4, i64 o0_5, i64 o0_6, .row 1 (o1).length, i64 o0_8, i64 o0_9, i64 o0_10, i64 o0_11, i64 o0_12, i64 o0_13, i64 o0_14, lv T_api_Alt.enc o0_15, .ptr 2 0, i64 o0_17, i64 p1, i64 o0_19, i64 p2, i64 o0_21, i64 o0_22, i64 o0_23, i64 o0_24, .row 4 (o4).length, .row 5 (o5).length, i64 o0_27, bo true], .row 3 1 (encL (eInt .i64) o1), .blk 123 [.row 3 (o2.l).length, i64 o2.most], .row 3 1 (encL (eInt .i64) o2.l), .row 3 1 (encL (eInt .i64) o4), .row 47 5 (encL T_api_Alt.enc o5), .ghost (gv 0) (.ptr 0 0), .ghost (gv 1) (.row 1 0), .ghost (gv 2) (.ptr 2 0), .ghost (gv 3) (.row 3 0), .ghost (gv 4) (.row 4 0), .ghost (gv 5) (.row 5 0)]⟩) (by kernel_rfl) (At.rN hR [0, 1, 2, 3, 4, 5]))
theorem C_run_runner_fault (p1 : Int) (o0_0 : (List T_api_Ins)) (o0_1 : (List T_api_Def)) (o0_2 : (List T_api_Chan)) (o0_3 : Int) (o0_4 : Int) (o0_5 : Int) (o0_6 : Int) (o0_8 : Int) (o0_9 : Int) (o0_10 : Int) (o0_11 : Int) (o0_12 : Int) (o0_13 : Int) (o0_14 : Int) (o0_15 : (List T_api_Alt)) (o0_17 : Int) (o0_18 : Int) (o0_19 : Int) (o0_20 : Int) (o0_21 : Int) (o0_22 : Int) (o0_23 : Int) (o0_24 : Int) (o0_27 : Int) (o0_28 : Bool) (o2 : T_stack_Stack_int_) (o1 : (List Int)) (o4 : (List Int)) (o5 : (List T_api_Alt)) (r : (List T_api_Ins) × (List T_api_Def) × (List T_api_Chan) × Int × Int × Int × Int × Int × Int × Int × Int × Int × Int × Int × (List T_api_Alt) × Int × Int × Int × Int × Int × Int × Int × Int × Int × Bool × (List Int) × (List T_api_Alt)) (h : F_run_runner_fault p1 o0_0 o0_1 o0_2 o0_3 o0_4 o0_5 o0_6 o0_8 o0_9 o0_10 o0_11 o0_12 o0_13 o0_14 o0_15 o0_17 o0_18 o0_19 o0_20 o0_21 o0_22 o0_23 o0_24 o0_27 o0_28 o2 o1 o4 o5 = some r) : FnOK Tryz.prog 74 [.ptr 0 0, i64 p1] [.blk 81 [lv T_api_Ins.enc o0_0, lv T_api_Def.enc o0_1, lv T_api_Chan.enc o0_2, i64 o0_3, i64 o0_4, i64 o0_5, i64 o0_6, .row 1 (o1).length, i64 o0_8, i64 o0_9, i64 o0_10, i64 o0_11, i64 o0_12, i64 o0_13, i64 o0_14, lv T_api_Alt.enc o0_15, .ptr 2 0, i64 o0_17, i64 o0_18, i64 o0_19, i64 o0_20, i64 o0_21, i64 o0_22, i64 o0_23, i64 o0_24, .row 4 (o4).length, .row 5 (o5).length, i64 o0_27, bo o0_28], .row 3 1 (encL (eInt .i64) o1), .blk 123 [.row 3 (o2.l).length, i64 o2.most], .row 3 1 (encL (eInt .i64) o2.l), .row 3 1 (encL (eInt .i64) o4), .row 47 5 (encL T_api_Alt.enc o5)] (.tup []) [.blk 81 [lv T_api_Ins.enc r.1, lv T_api_Def.enc r.2.1, lv T_api_Chan.enc r.2.2.1, i64 r.2.2.2.1, i64 r.2.2.2.2.1, i64 r.2.2.2.2.2.1, i64 r.2.2.2.2.2.2.1, .row 1 (o1).length, i64 r.2.2.2.2.2.2.2.1, i64 r.2.2.2.2.2.2.2.2.1, i64 r.2.2.2.2.2.2.2.2.2.1, i64 r.2.2.2.2.2.2.2.2.2.2.1, i64 r.2.2.2.2.2.2.2.2.2.2.2.1, i64 r.2.2.2.2.2.2.2.2.2.2.2.2.1, i64 r.2.2.2.2.2.2.2.2.2.2.2.2.2.1, lv T_api_Alt.enc r.2.2.2.2.2.2.2.2.2.2.2.2.2.2.1, .ptr 2 0, i64 r.2.2.2.2.2.2.2.2.2.2.2.2.2.2.2.1, i64 r.2.2.2.2.2.2.2.2.2.2.2.2.2.2.2.2.1, i64 r.2.2.2.2.2.2.2.2.2.2.2.2.2.2.2.2.2.1, i64 r.2.2.2.2.2.2.2.2.2.2.2.2.2.2.2.2.2.2.1, i64 r.2.2.2.2.2.2.2.2.2.2.2.2.2.2.2.2.2.2.2.1, i64 r.2.2.2.2.2.2.2.2.2.2.2.2.2.2.2.2.2.2.2.2.1, i64 r.2.2.2.2.2.2.2.2.2.2.2.2.2.2.2.2.2.2.2.2.2.1, i64 r.2.2.2.2.2.2.2.2.2.2.2.2.2.2.2.2.2.2.2.2.2.2.1, .row 4 (r.2.2.2.2.2.2.2.2.2.2.2.2.2.2.2.2.2.2.2.2.2.2.2.2.2.1).length, .row 5 (r.2.2.2.2.2.2.2.2.2.2.2.2.2.2.2.2.2.2.2.2.2.2.2.2.2.2).length, i64 r.2.2.2.2.2.2.2.2.2.2.2.2.2.2.2.2.2.2.2.2.2.2.2.1, bo r.2.2.2.2.2.2.2.2.2.2.2.2.2.2.2.2.2.2.2.2.2.2.2.2.1], .row 3 1 (encL (eInt .i64) o1), .blk 123 [.row 3 (o2.l).length, i64 o2.most], .row 3 1 (encL (eInt .i64) o2.l), .row 3 1 (encL (eInt .i64) r.2.2.2.2.2.2.2.2.2.2.2.2.2.2.2.2.2.2.2.2.2.2.2.2.2.1), .row 47 5 (encL T_api_Alt.enc r.2.2.2.2.2.2.2.2.2.2.2.2.2.2.2.2.2.2.2.2.2.2.2.2.2.2)] [1, 2, 5, 6, 8, 9, 10, 11] := by
  refine fI Tryz.func74 rfl fun E gv R hR => ?_
  refine At.sR [0] [0, 1, 2, 3, 4, 5, 6, 7, 8, 9, 10, 11] [] ?_
  refine At.eds [.reO 0 25 4] (st' := ⟨[(0, .ptr 0 0)], [.blk 81 [lv T_api_Ins.enc o0_0, lv T_api_Def.enc o0_1, lv T_api_Chan.enc o0_2, i64 o0_3, i64 o0_4, i64 o0_5, i64 o0_6, .row 1 (o1).length, i64 o0_8, i64 o0_9, i64 o0_10, i64 o0_11, i64 o0_12, i64 o0_13, i64 o0_14, lv T_api_Alt.enc o0_15, .ptr 2 0, i64 o0_17, i64 0, i64 o0_19, i64 0, i64 0, i64 0, i64 0, i64 0, .row 4 ([] : List Int).length, .d (.list true 0 []), i64 p1, bo o0_28], .row 3 1 (encL (eInt .i64) o1), .blk 123 [.row 3 (o2.l).length, i64 o2.most], .row 3 1 (encL (eInt .i64) o2.l), .row 3 1 (encL (eInt .i64) ([])), .row 47 5 (encL T_api_Alt.enc o5), .ghost (gv 0) (.ptr 0 0), .ghost (gv 1) (.row 1 0), .ghost (gv 2) (.ptr 2 0), .ghost (gv 3) (.row 3 0), .ghost (gv 4) (.undef), .ghost (gv 5) (.row 5 0)]⟩) (by kernel_rfl) ?_
  refine At.eds [.reO 0 26 5] (st' := ⟨[(0, .ptr 0 0)], [.blk 81 [lv T_api_Ins.enc o0_0, lv T_api_Def.enc o0_1, lv T_api_Chan.enc o0_2, i64 o0_3, i64 o0_4, i64 o0_5, i64 o0_6, .row 1 (o1).length, i64 o0_8, i64 o0_9, i64 o0_10, i64 o0_11, i64 o0_12, i64 o0_13, i64 o0_14, lv T_api_Alt.enc o0_15, .ptr 2 0, i64 o0_17, i64 0, i64 o0_19, i64 0, i64 0, i64 0, i64 0, i64 0, .row 4 ([] : List Int).length, .row 5 ([] : List T_api_Alt).length, i64 p1, bo o0_28], .row 3 1 (encL (eInt .i64) o1), .blk 123 [.row 3 (o2.l).length, i64 o2.most], .row 3 1 (encL (eInt .i64) o2.l), .row 3 1 (encL (eInt .i64) ([])), .row 47 5 (encL T_api_Alt.enc ([])), .ghost (gv 0) (.ptr 0 0), .ghost (gv 1) (.row 1 0), .ghost (gv 2) (.ptr 2 0), .ghost (gv 3) (.row 3 0), .ghost (gv 4) (.undef), .ghost (gv 5) (.undef)]⟩) (by kernel_rfl) ?_
  obtain ⟨y1, hy1, h⟩ := bs h
  obtain rfl := sq h
  refine At.rG [] [0, 1, 2, 3, 4, 5, 6, 7, 8, 9, 10, 11] [cT 1 6 [0, 1, 2, 3, 4, 5] (C_run_runner_end 11 0 o0_0 o0_1 o0_2 o0_3 o0_4 o0_5 o0_6 o0_8 o0_9 o0_10 o0_11 o0_12 o0_13 o0_14 o0_15 o0_17 0 o0_19 0 0 0 0 0 p1 o0_28 o2 o1 ([] : List Int) ([] : List T_api_Alt) y1 hy1)] (edq (l := []) (ks := []) (ρ := [0, 1, 2, 3, 4, 5, 6, 7, 8, 9, 10, 11]) (st' := ⟨[], [.blk 81 [lv T_api_Ins.enc y1.1, lv T_api_Def.enc y1.2.1, lv T_api_Chan.enc y1.2.2.1, i64 y1.2.2.2.1, i64 y1.2.2.2.2.1, i64 y1.2.2.2.2.2.1, i64 y1.2.2.2.2.2.2.1, .row 1 (o1).length, i64 y1.2.2.2.2.2.2.2.1, i64 y1.2.2.2.2.2.2.2.2.1, i64 y1.2.2.2.2.2.2.2.2.2.1, i64 y1.2.2.2.2.2.2.2.2.2.2.1, i64 y1.2.2.2.2.2.2.2.2.2.2.2.1, i64 y1.2.2.2.2.2.2.2.2.2.2.2.2.1, i64 y1.2.2.2.2.2.2.2.2.2.2.2.2.2.1, lv T_api_Alt.enc y1.2.2.2.2.2.2.2.2.2.2.2.2.2.2.1, .ptr 2 0, i64 y1.2.2.2.2.2.2.2.2.2.2.2.2.2.2.2.1, i64 y1.2.2.2.2.2.2.2.2.2.2.2.2.2.2.2.2.1, i64 y1.2.2.2.2.2.2.2.2.2.2.2.2.2.2.2.2.2.1, i64 y1.2.2.2.2.2.2.2.2.2.2.2.2.2.2.2.2.2.2.1, i64 y1.2.2.2.2.2.2.2.2.2.2.2.2.2.2.2.2.2.2.2.1, i64 y1.2.2.2.2.2.2.2.2.2.2.2.2.2.2.2.2.2.2.2.2.1, i64 y1.2.2.2.2.2.2.2.2.2.2.2.2.2.2.2.2.2.2.2.2.2.1, i64 y1.2.2.2.2.2.2.2.2.2.2.2.2.2.2.2.2.2.2.2.2.2.2.1, .row 4 ([] : List Int).length, .row 5 ([] : List T_api_Alt).length, i64 y1.2.2.2.2.2.2.2.2.2.2.2.2.2.2.2.2.2.2.2.2.2.2.2.1, bo y1.2.2.2.2.2.2.2.2.2.2.2.2.2.2.2.2.2.2.2.2.2.2.2.2], .row 3 1 (encL (eInt .i64) o1), .blk 123 [.row 3 (o2.l).length, i64 o2.most], .row 3 1 (encL (eInt .i64) o2.l), .row 3 1 (encL (eInt .i64) ([])), .row 47 5 (encL T_api_Alt.enc ([])), .ghost (gv 0) (.ptr 0 0), .ghost (gv 1) (.row 1 0), .ghost (gv 2) (.ptr 2 0), .ghost (gv 3) (.row 3 0), .ghost (gv 4) (.undef), .ghost (gv 5) (.undef)]⟩) (by kernel_rfl) (At.rN hR [0, 1, 2, 3, 4, 5]))
theorem C_run_runner_lay (o0_0 : (List T_api_Ins)) (o0_1 : (List T_api_Def)) (o0_2 : (List T_api_Chan)) (o0_3 : Int) (o0_4 : Int) (o0_5 : Int) (o0_6 : Int) (o0_8 : Int) (o0_9 : Int) (o0_10 : Int) (o0_11 : Int) (o0_12 : Int) (o0_13 : Int) (o0_14 : Int) (o0_15 : (List T_api_Alt)) (o0_17 : Int) (o0_18 : Int) (o0_19 : Int) (o0_20 : Int) (o0_21 : Int) (o0_22 : Int) (o0_23 : Int) (o0_24 : Int) (o0_27 : Int) (o0_28 : Bool) (o2 : T_stack_Stack_int_) (o1 : (List Int)) (o4 : (List Int)) (o5 : (List T_api_Alt)) (o6 : (List Int)) (r : (List T_api_Ins) × (List T_api_Def) × (List T_api_Chan) × Int × Int × Int × Int × Int × Int × Int × Int × Int × Int × Int × (List T_api_Alt) × Int × Int × Int × Int × Int × Int × Int × Int × Int × Bool × T_stack_Stack_int_ × (List Int) × (List T_api_Alt)) (h : F_run_runner_lay o0_0 o0_1 o0_2 o0_3 o0_4 o0_5 o0_6 o0_8 o0_9 o0_10 o0_11 o0_12 o0_13 o0_14 o0_15 o0_17 o0_18 o0_19 o0_20 o0_21 o0_22 o0_23 o0_24 o0_27 o0_28 o2 o1 o4 o5 o6 = some r) : FnOK Tryz.prog 63 [.ptr 0 0, .row 6 (o6).length] [.blk 81 [lv T_api_Ins.enc o0_0, lv T_api_Def.enc o0_1, lv T_api_Chan.enc o0_2, i64 o0_3, i64 o0_4, i64 o0_5, i64 o0_6, .row 1 (o1).length, i64 o0_8, i64 o0_9, i64 o0_10, i64 o0_11, i64 o0_12, i64 o0_13, i64 o0_14, lv T_api_Alt.enc o0_15, .ptr 2 0, i64 o0_17, i64 o0_18, i64 o0_19, i64 o0_20, i64 o0_21, i64 o0_22, i64 o0_23, i64 o0_24, .row 4 (o4).length, .row 5 (o5).length, i64 o0_27, bo o0_28], .row 3 1 (encL (eInt .i64) o1), .blk 123 [.row 3 (o2.l).length, i64 o2.most], .row 3 1 (encL (eInt .i64) o2.l), .row 3 1 (encL (eInt .i64) o4), .row 47 5 (encL T_api_Alt.enc o5), .row 3 1 (encL (eInt .i64) o6)] (.tup []) [.blk 81 [lv T_api_Ins.enc r.1, lv T_api_Def.enc r.2.1, lv T_api_Chan.enc r.2.2.1, i64 r.2.2.2.1, i64 r.2.2.2.2.1, i64 r.2.2.2.2.2.1, i64 r.2.2.2.2.2.2.1, .row 1 (o1).length, i64 r.2.2.2.2.2.2.2.1, i64 r.2.2.2.2.2.2.2.2.1, i64 r.2.2.2.2.2.2.2.2.2.1, i64 r.2.2.2.2.2.2.2.2.2.2.1, i64 r.2.2.2.2.2.2.2.2.2.2.2.1, i64 r.2.2.2.2.2.2.2.2.2.2.2.2.1, i64 r.2.2.2.2.2.2.2.2.2.2.2.2.2.1, lv T_api_Alt.enc r.2.2.2.2.2.2.2.2.2.2.2.2.2.2.1, .ptr 2 0, i64 r.2.2.2.2.2.2.2.2.2.2.2.2.2.2.2.1, i64 r.2.2.2.2.2.2.2.2.2.2.2.2.2.2.2.2.1, i64 r.2.2.2.2.2.2.2.2.2.2.2.2.2.2.2.2.2.1, i64 r.2.2.2.2.2.2.2.2.2.2.2.2.2.2.2.2.2.2.1, i64 r.2.2.2.2.2.2.2.2.2.2.2.2.2.2.2.2.2.2.2.1, i64 r.2.2.2.2.2.2.2.2.2.2.2.2.2.2.2.2.2.2.2.2.1, i64 r.2.2.2.2.2.2.2.2.2.2.2.2.2.2.2.2.2.2.2.2.2.1, i64 r.2.2.2.2.2.2.2.2.2.2.2.2.2.2.2.2.2.2.2.2.2.2.1, .row 4 (r.2.2.2.2.2.2.2.2.2.2.2.2.2.2.2.2.2.2.2.2.2.2.2.2.2.2.1).length, .row 5 (r.2.2.2.2.2.2.2.2.2.2.2.2.2.2.2.2.2.2.2.2.2.2.2.2.2.2.2).length, i64 r.2.2.2.2.2.2.2.2.2.2.2.2.2.2.2.2.2.2.2.2.2.2.2.1, bo r.2.2.2.2.2.2.2.2.2.2.2.2.2.2.2.2.2.2.2.2.2.2.2.2.1], .row 3 1 (encL (eInt .i64) o1), .blk 123 [.row 3 (r.2.2.2.2.2.2.2.2.2.2.2.2.2.2.2.2.2.2.2.2.2.2.2.2.2.1.l).length, i64 r.2.2.2.2.2.2.2.2.2.2.2.2.2.2.2.2.2.2.2.2.2.2.2.2.2.1.most], .row 3 1 (encL (eInt .i64) r.2.2.2.2.2.2.2.2.2.2.2.2.2.2.2.2.2.2.2.2.2.2.2.2.2.1.l), .row 3 1 (encL (eInt .i64) r.2.2.2.2.2.2.2.2.2.2.2.2.2.2.2.2.2.2.2.2.2.2.2.2.2.2.1), .row 47 5 (encL T_api_Alt.enc r.2.2.2.2.2.2.2.2.2.2.2.2.2.2.2.2.2.2.2.2.2.2.2.2.2.2.2), .row 3 1 (encL (eInt .i64) o6)] [1, 2, 5, 6, 7, 8, 9, 10, 11, 12] := by
  refine fI Tryz.func63 rfl fun E gv R hR => ?_
  refine At.sR [0, 6, 7, 8] [0, 1, 2, 3, 4, 5, 6, 7, 8, 9, 10, 11, 12, 13] [] ?_
  refine At.block ?_
  refine At.nK (st' := ⟨[(0, .ptr 0 0), (6, .row 6 (o6).length), (7, i64 ((o6).length : Int)), (8, i64 0)], [.blk 81 [lv T_api_Ins.enc o0_0, lv T_api_Def.enc o0_1, lv T_api_Chan.enc o0_2, i64 o0_3, i64 o0_4, i64 o0_5, i64 o0_6, .row 1 (o1).length, i64 o0_8, i64 o0_9, i64 o0_10, i64 o0_11, i64 o0_12, i64 o0_13, i64 o0_14, lv T_api_Alt.enc o0_15, .ptr 2 0, i64 o0_17, i64 o0_18, i64 o0_19, i64 o0_20, i64 o0_21, i64 o0_22, i64 o0_23, i64 o0_24, .row 4 (o4).length, .row 5 (o5).length, i64 o0_27, bo o0_28], .row 3 1 (encL (eInt .i64) o1), .blk 123 [.row 3 (o2.l).length, i64 o2.most], .row 3 1 (encL (eInt .i64) o2.l), .row 3 1 (encL (eInt .i64) o4), .row 47 5 (encL T_api_Alt.enc o5), .row 3 1 (encL (eInt .i64) o6), .ghost (gv 0) (.ptr 0 0), .ghost (gv 1) (.row 1 0), .ghost (gv 2) (.ptr 2 0), .ghost (gv 3) (.row 3 0), .ghost (gv 4) (.row 4 0), .ghost (gv 5) (.row 5 0), .ghost (gv 6) (.row 6 0)]⟩) [0, 6, 7, 8] [0, 1, 2, 3, 4, 5, 6, 7, 8, 9, 10, 11, 12, 13] ?_
  refine At.edNar [.hideG 10, .hideG 11, .hideG 12] [0, 6, 7, 8] [0, 1, 2, 3, 4, 5, 6, 7, 8, 9, 10, 11, 12, 13] (st' := ⟨[(0, .ptr 0 0), (6, .row 6 (o6).length), (7, i64 ((o6).length : Int)), (8, i64 0)], [.blk 81 [lv T_api_Ins.enc o0_0, lv T_api_Def.enc o0_1, lv T_api_Chan.enc o0_2, i64 o0_3, i64 o0_4, i64 o0_5, i64 o0_6, .row 1 (o1).length, i64 o0_8, i64 o0_9, i64 o0_10, i64 o0_11, i64 o0_12, i64 o0_13, i64 o0_14, lv T_api_Alt.enc o0_15, .ptr 2 0, i64 o0_17, i64 o0_18, i64 o0_19, i64 o0_20, i64 o0_21, i64 o0_22, i64 o0_23, i64 o0_24, .row 4 (o4).length, .row 5 (o5).length, i64 o0_27, bo o0_28], .row 3 1 (encL (eInt .i64) o1), .blk 123 [.row 3 (o2.l).length, i64 o2.most], .row 3 1 (encL (eInt .i64) o2.l), .row 3 1 (encL (eInt .i64) o4), .row 47 5 (encL T_api_Alt.enc o5), .row 3 1 (encL (eInt .i64) o6), .ghost (gv 0) (.ptr 0 0), .ghost (gv 1) (.row 1 0), .ghost (gv 2) (.ptr 2 0), .ghost (gv 3) (.undef), .ghost (gv 4) (.undef), .ghost (gv 5) (.undef), .ghost (gv 6) (.row 6 0)]⟩) (by kernel_rfl) ?_
  refine At.lp (fun s : (Int × (List T_api_Ins) × (List T_api_Def) × (List T_api_Chan) × Int × Int × Int × Int × Int × Int × Int × Int × Int × Int × Int × (List T_api_Alt) × Int × Int × Int × Int × Int × Int × Int × Int × Int × Bool × Int × (List Int) × (List Int) × (List T_api_Alt)) => ⟨[(0, .ptr 0 0), (6, .row 6 (o6).length), (7, i64 ((o6).length : Int)), (8, i64 s.1)], [.blk 81 [lv T_api_Ins.enc s.2.1, lv T_api_Def.enc s.2.2.1, lv T_api_Chan.enc s.2.2.2.1, i64 s.2.2.2.2.1, i64 s.2.2.2.2.2.1, i64 s.2.2.2.2.2.2.1, i64 s.2.2.2.2.2.2.2.1, .row 1 (o1).length, i64 s.2.2.2.2.2.2.2.2.1, i64 s.2.2.2.2.2.2.2.2.2.1, i64 s.2.2.2.2.2.2.2.2.2.2.1, i64 s.2.2.2.2.2.2.2.2.2.2.2.1, i64 s.2.2.2.2.2.2.2.2.2.2.2.2.1, i64 s.2.2.2.2.2.2.2.2.2.2.2.2.2.1, i64 s.2.2.2.2.2.2.2.2.2.2.2.2.2.2.1, lv T_api_Alt.enc s.2.2.2.2.2.2.2.2.2.2.2.2.2.2.2.1, .ptr 2 0, i64 s.2.2.2.2.2.2.2.2.2.2.2.2.2.2.2.2.1, i64 s.2.2.2.2.2.2.2.2.2.2.2.2.2.2.2.2.2.1, i64 s.2.2.2.2.2.2.2.2.2.2.2.2.2.2.2.2.2.2.1, i64 s.2.2.2.2.2.2.2.2.2.2.2.2.2.2.2.2.2.2.2.1, i64 s.2.2.2.2.2.2.2.2.2.2.2.2.2.2.2.2.2.2.2.2.1, i64 s.2.2.2.2.2.2.2.2.2.2.2.2.2.2.2.2.2.2.2.2.2.1, i64 s.2.2.2.2.2.2.2.2.2.2.2.2.2.2.2.2.2.2.2.2.2.2.1, i64 s.2.2.2.2.2.2.2.2.2.2.2.2.2.2.2.2.2.2.2.2.2.2.2.1, .row 4 (s.2.2.2.2.2.2.2.2.2.2.2.2.2.2.2.2.2.2.2.2.2.2.2.2.2.2.2.2.1).length, .row 5 (s.2.2.2.2.2.2.2.2.2.2.2.2.2.2.2.2.2.2.2.2.2.2.2.2.2.2.2.2.2).length, i64 s.2.2.2.2.2.2.2.2.2.2.2.2.2.2.2.2.2.2.2.2.2.2.2.2.1, bo s.2.2.2.2.2.2.2.2.2.2.2.2.2.2.2.2.2.2.2.2.2.2.2.2.2.1], .row 3 1 (encL (eInt .i64) o1), .blk 123 [.row 3 (s.2.2.2.2.2.2.2.2.2.2.2.2.2.2.2.2.2.2.2.2.2.2.2.2.2.2.2.1).length, i64 s.2.2.2.2.2.2.2.2.2.2.2.2.2.2.2.2.2.2.2.2.2.2.2.2.2.2.1], .row 3 1 (encL (eInt .i64) s.2.2.2.2.2.2.2.2.2.2.2.2.2.2.2.2.2.2.2.2.2.2.2.2.2.2.2.1), .row 3 1 (encL (eInt .i64) s.2.2.2.2.2.2.2.2.2.2.2.2.2.2.2.2.2.2.2.2.2.2.2.2.2.2.2.2.1), .row 47 5 (encL T_api_Alt.enc s.2.2.2.2.2.2.2.2.2.2.2.2.2.2.2.2.2.2.2.2.2.2.2.2.2.2.2.2.2), .row 3 1 (encL (eInt .i64) o6), .ghost (gv 0) (.ptr 0 0), .ghost (gv 1) (.row 1 0), .ghost (gv 2) (.ptr 2 0), .ghost (gv 3) (.undef), .ghost (gv 4) (.undef), .ghost (gv 5) (.undef), .ghost (gv 6) (.row 6 0)]⟩) h ?_
  rintro ⟨x1, x2, x3, x4, x5, x6, x7, x8, x9, x10, x11, x12, x13, x14, x15, x16, x17, x18, x19, x20, x21, x22, x23, x24, x25, x26, x27, x28, x29, x30⟩ oo31 h f32
  replace h : F_run_runner_lay_L2 o1 o6 x1 x2 x3 x4 x5 x6 x7 x8 x9 x10 x11 x12 x13 x14 x15 x16 x17 x18 x19 x20 x21 x22 x23 x24 x25 x26 x27 x28 x29 x30 = some oo31 := h
  refine At.sR [0, 6, 7, 8, 9] [0, 1, 2, 3, 4, 5, 6, 7, 8, 9, 10, 11, 12, 13] [] ?_
  refine At.seq ?_
  refine At.cd h (fun b34 h => ?_) (fun b34 h => ?_)
  · refine At.nR [0, 6, 7, 8] [0, 1, 2, 3, 4, 5, 6, 7, 8, 9, 10, 11, 12, 13] ?_
    refine At.skip (norm ?_)
    refine At.seqJ (S := (List T_api_Ins) × (List T_api_Def) × (List T_api_Chan) × Int × Int × Int × Int × Int × Int × Int × Int × Int × Int × Int × (List T_api_Alt) × Int × Int × Int × Int × Int × Int × Int × Int × Int × Bool × Int × (List Int) × (List Int) × (List T_api_Alt)) (fun s => ⟨[(0, .ptr 0 0), (6, .row 6 (o6).length), (7, i64 ((o6).length : Int)), (8, i64 x1)], [.blk 81 [lv T_api_Ins.enc s.1, lv T_api_Def.enc s.2.1, lv T_api_Chan.enc s.2.2.1, i64 s.2.2.2.1, i64 s.2.2.2.2.1, i64 s.2.2.2.2.2.1, i64 s.2.2.2.2.2.2.1, .row 1 (o1).length, i64 s.2.2.2.2.2.2.2.1, i64 s.2.2.2.2.2.2.2.2.1, i64 s.2.2.2.2.2.2.2.2.2.1, i64 s.2.2.2.2.2.2.2.2.2.2.1, i64 s.2.2.2.2.2.2.2.2.2.2.2.1, i64 s.2.2.2.2.2.2.2.2.2.2.2.2.1, i64 s.2.2.2.2.2.2.2.2.2.2.2.2.2.1, lv T_api_Alt.enc s.2.2.2.2.2.2.2.2.2.2.2.2.2.2.1, .ptr 2 0, i64 s.2.2.2.2.2.2.2.2.2.2.2.2.2.2.2.1, i64 s.2.2.2.2.2.2.2.2.2.2.2.2.2.2.2.2.1, i64 s.2.2.2.2.2.2.2.2.2.2.2.2.2.2.2.2.2.1, i64 s.2.2.2.2.2.2.2.2.2.2.2.2.2.2.2.2.2.2.1, i64 s.2.2.2.2.2.2.2.2.2.2.2.2.2.2.2.2.2.2.2.1, i64 s.2.2.2.2.2.2.2.2.2.2.2.2.2.2.2.2.2.2.2.2.1, i64 s.2.2.2.2.2.2.2.2.2.2.2.2.2.2.2.2.2.2.2.2.2.1, i64 s.2.2.2.2.2.2.2.2.2.2.2.2.2.2.2.2.2.2.2.2.2.2.1, .row 4 (s.2.2.2.2.2.2.2.2.2.2.2.2.2.2.2.2.2.2.2.2.2.2.2.2.2.2.2.1).length, .row 5 (s.2.2.2.2.2.2.2.2.2.2.2.2.2.2.2.2.2.2.2.2.2.2.2.2.2.2.2.2).length, i64 s.2.2.2.2.2.2.2.2.2.2.2.2.2.2.2.2.2.2.2.2.2.2.2.1, bo s.2.2.2.2.2.2.2.2.2.2.2.2.2.2.2.2.2.2.2.2.2.2.2.2.1], .row 3 1 (encL (eInt .i64) o1), .blk 123 [.row 3 (s.2.2.2.2.2.2.2.2.2.2.2.2.2.2.2.2.2.2.2.2.2.2.2.2.2.2.1).length, i64 s.2.2.2.2.2.2.2.2.2.2.2.2.2.2.2.2.2.2.2.2.2.2.2.2.2.1], .row 3 1 (encL (eInt .i64) s.2.2.2.2.2.2.2.2.2.2.2.2.2.2.2.2.2.2.2.2.2.2.2.2.2.2.1), .row 3 1 (encL (eInt .i64) s.2.2.2.2.2.2.2.2.2.2.2.2.2.2.2.2.2.2.2.2.2.2.2.2.2.2.2.1), .row 47 5 (encL T_api_Alt.enc s.2.2.2.2.2.2.2.2.2.2.2.2.2.2.2.2.2.2.2.2.2.2.2.2.2.2.2.2), .row 3 1 (encL (eInt .i64) o6), .ghost (gv 0) (.ptr 0 0), .ghost (gv 1) (.row 1 0), .ghost (gv 2) (.ptr 2 0), .ghost (gv 3) (.undef), .ghost (gv 4) (.undef), .ghost (gv 5) (.undef), .ghost (gv 6) (.row 6 0)]⟩) (fun s => F_run_runner_lay_J1 x1 s.1 s.2.1 s.2.2.1 s.2.2.2.1 s.2.2.2.2.1 s.2.2.2.2.2.1 s.2.2.2.2.2.2.1 s.2.2.2.2.2.2.2.1 s.2.2.2.2.2.2.2.2.1 s.2.2.2.2.2.2.2.2.2.1 s.2.2.2.2.2.2.2.2.2.2.1 s.2.2.2.2.2.2.2.2.2.2.2.1 s.2.2.2.2.2.2.2.2.2.2.2.2.1 s.2.2.2.2.2.2.2.2.2.2.2.2.2.1 s.2.2.2.2.2.2.2.2.2.2.2.2.2.2.1 s.2.2.2.2.2.2.2.2.2.2.2.2.2.2.2.1 s.2.2.2.2.2.2.2.2.2.2.2.2.2.2.2.2.1 s.2.2.2.2.2.2.2.2.2.2.2.2.2.2.2.2.2.1 s.2.2.2.2.2.2.2.2.2.2.2.2.2.2.2.2.2.2.1 s.2.2.2.2.2.2.2.2.2.2.2.2.2.2.2.2.2.2.2.1 s.2.2.2.2.2.2.2.2.2.2.2.2.2.2.2.2.2.2.2.2.1 s.2.2.2.2.2.2.2.2.2.2.2.2.2.2.2.2.2.2.2.2.2.1 s.2.2.2.2.2.2.2.2.2.2.2.2.2.2.2.2.2.2.2.2.2.2.1 s.2.2.2.2.2.2.2.2.2.2.2.2.2.2.2.2.2.2.2.2.2.2.2.1 s.2.2.2.2.2.2.2.2.2.2.2.2.2.2.2.2.2.2.2.2.2.2.2.2.1 s.2.2.2.2.2.2.2.2.2.2.2.2.2.2.2.2.2.2.2.2.2.2.2.2.2.1 s.2.2.2.2.2.2.2.2.2.2.2.2.2.2.2.2.2.2.2.2.2.2.2.2.2.2.1 s.2.2.2.2.2.2.2.2.2.2.2.2.2.2.2.2.2.2.2.2.2.2.2.2.2.2.2.1 s.2.2.2.2.2.2.2.2.2.2.2.2.2.2.2.2.2.2.2.2.2.2.2.2.2.2.2.2 = some oo31) ?_ ?_
    · refine At.block ?_
      obtain ⟨y71, hy71, h⟩ := bs h
      refine At.sR [0, 5, 6, 7, 8] [0, 1, 2, 3, 4, 5, 6, 7, 8, 9, 10, 11, 12, 13] [oT 0 ((rAt_of (he_int .i64) (d := .int .i64 y71) hy71 rfl).1), vT 1 (.int .i64 y71) ((rAt_of (he_int .i64) (d := .int .i64 y71) hy71 rfl).2)] ?_
      obtain ⟨y73, hy73, h⟩ := bs h
      refine At.sR [0, 6, 7, 8, 18] [0, 1, 2, 3, 4, 5, 6, 7, 8, 9, 10, 11, 12, 13] [cT 5 2 [2, 3] (C_stack_Stack_int_Push y71 (⟨x28, x27⟩ : T_stack_Stack_int_) y73 hy73)] ?_
      refine At.cd h (fun b74 h => ?_) (fun b74 h => ?_)
      · obtain ⟨y75, hy75, h⟩ := bs h
        exact At.rK [0, 6, 7, 8] [0, 1, 2, 3, 4, 5, 6, 7, 8, 9, 10, 11, 12, 13] [cT 1 6 [0, 1, 2, 3, 4, 5] (C_run_runner_fault 2 x2 x3 x4 x5 x6 x7 x8 x9 x10 x11 x12 x13 x14 x15 x16 x17 x18 x19 x20 x21 x22 x23 x24 x25 x26 y73.2 o1 x29 x30 y75 hy75)] fun _ _ i => ⟨(y75.1, y75.2.1, y75.2.2.1, y75.2.2.2.1, y75.2.2.2.2.1, y75.2.2.2.2.2.1, y75.2.2.2.2.2.2.1, y75.2.2.2.2.2.2.2.1, y75.2.2.2.2.2.2.2.2.1, y75.2.2.2.2.2.2.2.2.2.1, y75.2.2.2.2.2.2.2.2.2.2.1, y75.2.2.2.2.2.2.2.2.2.2.2.1, y75.2.2.2.2.2.2.2.2.2.2.2.2.1, y75.2.2.2.2.2.2.2.2.2.2.2.2.2.1, y75.2.2.2.2.2.2.2.2.2.2.2.2.2.2.1, y75.2.2.2.2.2.2.2.2.2.2.2.2.2.2.2.1, y75.2.2.2.2.2.2.2.2.2.2.2.2.2.2.2.2.1, y75.2.2.2.2.2.2.2.2.2.2.2.2.2.2.2.2.2.1, y75.2.2.2.2.2.2.2.2.2.2.2.2.2.2.2.2.2.2.1, y75.2.2.2.2.2.2.2.2.2.2.2.2.2.2.2.2.2.2.2.1, y75.2.2.2.2.2.2.2.2.2.2.2.2.2.2.2.2.2.2.2.2.1, y75.2.2.2.2.2.2.2.2.2.2.2.2.2.2.2.2.2.2.2.2.2.1, y75.2.2.2.2.2.2.2.2.2.2.2.2.2.2.2.2.2.2.2.2.2.2.1, y75.2.2.2.2.2.2.2.2.2.2.2.2.2.2.2.2.2.2.2.2.2.2.2.1, y75.2.2.2.2.2.2.2.2.2.2.2.2.2.2.2.2.2.2.2.2.2.2.2.2.1, y73.2.most, y73.2.l, y75.2.2.2.2.2.2.2.2.2.2.2.2.2.2.2.2.2.2.2.2.2.2.2.2.2.1, y75.2.2.2.2.2.2.2.2.2.2.2.2.2.2.2.2.2.2.2.2.2.2.2.2.2.2), h, i⟩
      · refine At.nR [0, 6, 7, 8] [0, 1, 2, 3, 4, 5, 6, 7, 8, 9, 10, 11, 12, 13] ?_
        refine At.skip (fun _ _ i => ⟨(x2, x3, x4, x5, x6, x7, x8, x9, x10, x11, x12, x13, x14, x15, x16, x17, x18, x19, x20, x21, x22, x23, x24, x25, x26, y73.2.most, y73.2.l, x29, x30), h, i.en [] [0, 6, 7, 8] [0, 1, 2, 3, 4, 5, 6, 7, 8, 9, 10, 11, 12, 13]⟩)
    · rintro ⟨x41, x42, x43, x44, x45, x46, x47, x48, x49, x50, x51, x52, x53, x54, x55, x56, x57, x58, x59, x60, x61, x62, x63, x64, x65, x66, x67, x68, x69⟩ h
      replace h : F_run_runner_lay_J1 x1 x41 x42 x43 x44 x45 x46 x47 x48 x49 x50 x51 x52 x53 x54 x55 x56 x57 x58 x59 x60 x61 x62 x63 x64 x65 x66 x67 x68 x69 = some oo31 := h
      exact At.rK [0, 6, 7, 8] [0, 1, 2, 3, 4, 5, 6, 7, 8, 9, 10, 11, 12, 13] [] fun _ _ i => ⟨_, li h, i⟩
  · refine At.nR [] [0, 1, 2, 3, 4, 5, 6, 7, 8, 9, 10, 11, 12, 13] ?_
    obtain ⟨r76, h, e77⟩ := mr h
    rw [f32 _ e77] at h
    obtain rfl := sq h
    refine At.exit (edq (l := []) (ks := []) (ρ := [0, 1, 2, 3, 4, 5, 6, 7, 8, 9, 10, 11, 12, 13]) (st' := ⟨[], [.blk 81 [lv T_api_Ins.enc x2, lv T_api_Def.enc x3, lv T_api_Chan.enc x4, i64 x5, i64 x6, i64 x7, i64 x8, .row 1 (o1).length, i64 x9, i64 x10, i64 x11, i64 x12, i64 x13, i64 x14, i64 x15, lv T_api_Alt.enc x16, .ptr 2 0, i64 x17, i64 x18, i64 x19, i64 x20, i64 x21, i64 x22, i64 x23, i64 x24, .row 4 (x29).length, .row 5 (x30).length, i64 x25, bo x26], .row 3 1 (encL (eInt .i64) o1), .blk 123 [.row 3 (x28).length, i64 x27], .row 3 1 (encL (eInt .i64) x28), .row 3 1 (encL (eInt .i64) x29), .row 47 5 (encL T_api_Alt.enc x30), .row 3 1 (encL (eInt .i64) o6), .ghost (gv 0) (.ptr 0 0), .ghost (gv 1) (.row 1 0), .ghost (gv 2) (.ptr 2 0), .ghost (gv 3) (.undef), .ghost (gv 4) (.undef), .ghost (gv 5) (.undef), .ghost (gv 6) (.row 6 0)]⟩) (by kernel_rfl) (At.rN hR [0, 1, 2, 3, 4, 5, 6]))
theorem C_run_runner_slot (p1 : Int) (o0_0 : (List T_api_Ins)) (o0_1 : (List T_api_Def)) (o0_2 : (List T_api_Chan)) (o0_3 : Int) (o0_4 : Int) (o0_5 : Int) (o0_6 : Int) (o0_8 : Int) (o0_9 : Int) (o0_10 : Int) (o0_11 : Int) (o0_12 : Int) (o0_13 : Int) (o0_14 : Int) (o0_15 : (List T_api_Alt)) (o0_17 : Int) (o0_18 : Int) (o0_19 : Int) (o0_20 : Int) (o0_21 : Int) (o0_22 : Int) (o0_23 : Int) (o0_24 : Int) (o0_27 : Int) (o0_28 : Bool) (o2 : T_stack_Stack_int_) (o1 : (List Int)) (o4 : (List Int)) (o5 : (List T_api_Alt)) (r : Int) (h : F_run_runner_slot p1 o0_0 o0_1 o0_2 o0_3 o0_4 o0_5 o0_6 o0_8 o0_9 o0_10 o0_11 o0_12 o0_13 o0_14 o0_15 o0_17 o0_18 o0_19 o0_20 o0_21 o0_22 o0_23 o0_24 o0_27 o0_28 o2 o1 o4 o5 = some r) : FnOK Tryz.prog 64 [.ptr 0 0, i64 p1] [.blk 81 [lv T_api_Ins.enc o0_0, lv T_api_Def.enc o0_1, lv T_api_Chan.enc o0_2, i64 o0_3, i64 o0_4, i64 o0_5, i64 o0_6, .row 1 (o1).length, i64 o0_8, i64 o0_9, i64 o0_10, i64 o0_11, i64 o0_12, i64 o0_13, i64 o0_14, lv T_api_Alt.enc o0_15, .ptr 2 0, i64 o0_17, i64 o0_18, i64 o0_19, i64 o0_20, i64 o0_21, i64 o0_22, i64 o0_23, i64 o0_24, .row 4 (o4).length, .row 5 (o5).length, i64 o0_27, bo o0_28], .row 3 1 (encL (eInt .i64) o1), .blk 123 [.row 3 (o2.l).length, i64 o2.most], .row 3 1 (encL (eInt .i64) o2.l), .row 3 1 (encL (eInt .i64) o4), .row 47 5 (encL T_api_Alt.enc o5)] (i64 r) [.blk 81 [lv T_api_Ins.enc o0_0, lv T_api_Def.enc o0_1, lv T_api_Chan.enc o0_2, i64 o0_3, i64 o0_4, i64 o0_5, i64 o0_6, .row 1 (o1).length, i64 o0_8, i64 o0_9, i64 o0_10, i64 o0_11, i64 o0_12, i64 o0_13, i64 o0_14, lv T_api_Alt.enc o0_15, .ptr 2 0, i64 o0_17, i64 o0_18, i64 o0_19, i64 o0_20, i64 o0_21, i64 o0_22, i64 o0_23, i64 o0_24, .row 4 (o4).length, .row 5 (o5).length, i64 o0_27, bo o0_28], .row 3 1 (encL (eInt .i64) o1), .blk 123 [.row 3 (o2.l).length, i64 o2.most], .row 3 1 (encL (eInt .i64) o2.l), .row 3 1 (encL (eInt .i64) o4), .row 47 5 (encL T_api_Alt.enc o5)] [1, 2, 5, 6, 8, 10] := by
  refine fI Tryz.func64 rfl fun E gv R hR => ?_
  refine At.sR [0, 1] [0, 1, 2, 3, 4, 5, 6, 7, 8, 9, 10, 11] [] ?_
  refine At.seq ?_
  refine At.seqJ (S := Bool) (fun s => ⟨[(0, .ptr 0 0), (1, i64 p1), (16, bo s)], [.blk 81 [lv T_api_Ins.enc o0_0, lv T_api_Def.enc o0_1, lv T_api_Chan.enc o0_2, i64 o0_3, i64 o0_4, i64 o0_5, i64 o0_6, .row 1 (o1).length, i64 o0_8, i64 o0_9, i64 o0_10, i64 o0_11, i64 o0_12, i64 o0_13, i64 o0_14, lv T_api_Alt.enc o0_15, .ptr 2 0, i64 o0_17, i64 o0_18, i64 o0_19, i64 o0_20, i64 o0_21, i64 o0_22, i64 o0_23, i64 o0_24, .row 4 (o4).length, .row 5 (o5).length, i64 o0_27, bo o0_28], .row 3 1 (encL (eInt .i64) o1), .blk 123 [.row 3 (o2.l).length, i64 o2.most], .row 3 1 (encL (eInt .i64) o2.l), .row 3 1 (encL (eInt .i64) o4), .row 47 5 (encL T_api_Alt.enc o5), .ghost (gv 0) (.ptr 0 0), .ghost (gv 1) (.row 1 0), .ghost (gv 2) (.ptr 2 0), .ghost (gv 3) (.row 3 0), .ghost (gv 4) (.row 4 0), .ghost (gv 5) (.row 5 0)]⟩) (fun s => F_run_runner_slot_J1 p1 o1 s = some r) ?_ ?_
  · rcases cs h with ⟨b10, h⟩ | ⟨b10, h⟩
    · exact At.rK [0, 1, 16] [0, 1, 2, 3, 4, 5, 6, 7, 8, 9, 10, 11] [bT 2 b10] fun _ _ i => ⟨true, h, i⟩
    · exact At.rK [0, 1, 16] [0, 1, 2, 3, 4, 5, 6, 7, 8, 9, 10, 11] [bT 2 b10] fun _ _ i => ⟨(decide (((o1).length : Int) ≤ p1)), h, i⟩
  · intro x6 h
    refine At.cd h (fun b7 h => ?_) (fun b7 h => ?_)
    · refine At.sR [4] [0, 1, 2, 3, 4, 5, 6, 7, 8, 9, 10, 11] [] ?_
      obtain rfl := sq h
      exact At.ret (At.rR hR [0, 1, 2, 3, 4, 5])
    · refine At.nR [0, 1] [0, 1, 2, 3, 4, 5, 6, 7, 8, 9, 10, 11] ?_
      refine At.skip (norm ?_)
      obtain ⟨y9, hy9, h⟩ := bs h
      refine At.sR [4] [0, 1, 2, 3, 4, 5, 6, 7, 8, 9, 10, 11] [oT 6 ((rAt_of (he_int .i64) (d := .int .i64 y9) hy9 rfl).1), vT 7 (.int .i64 y9) ((rAt_of (he_int .i64) (d := .int .i64 y9) hy9 rfl).2)] ?_
      obtain rfl := sq h
      exact At.ret (At.rR hR [0, 1, 2, 3, 4, 5])
theorem C_arith_Wide (p0 : Int) (r : Int) (h : F_arith_Wide p0 = some r) : FnOK Tryz.prog 92 [i64 p0] [] (i64 r) [] [] := by
  refine fI Tryz.func92 rfl fun E gv R hR => ?_
  refine At.sR [0] [] [] ?_
  refine At.seq ?_
  refine At.block ?_
  refine At.seqJ (S := Bool) (fun s => ⟨[(0, i64 p0), (3, bo s)], []⟩) (fun s => F_arith_Wide_J1 p0 s = some r) ?_ ?_
  · rcases cs h with ⟨b16, h⟩ | ⟨b16, h⟩
    · exact At.rK [0, 3] [] [bT 2 b16] fun _ _ i => ⟨true, h, i⟩
    · exact At.rK [0, 3] [] [bT 2 b16] fun _ _ i => ⟨(p0 == 4), h, i⟩
  · intro x10 h
    refine At.cd h (fun b11 h => ?_) (fun b11 h => ?_)
    · refine At.sR [2] [] [] ?_
      obtain rfl := sq h
      exact At.ret (At.rR hR [])
    · refine At.seqJ (S := Bool) (fun s => ⟨[(10, bo s)], []⟩) (fun s => F_arith_Wide_J2 s = some r) ?_ ?_
      · rcases cs h with ⟨b15, h⟩ | ⟨b15, h⟩
        · exact At.rK [10] [] [bT 2 b15] fun _ _ i => ⟨(decide (p0 ≤ 17)), h, i⟩
        · exact At.rK [10] [] [bT 2 b15] fun _ _ i => ⟨false, h, i⟩
      · intro x13 h
        refine At.cd h (fun b14 h => ?_) (fun b14 h => ?_)
        · refine At.sR [2] [] [] ?_
          obtain rfl := sq h
          exact At.ret (At.rR hR [])
        · refine At.nR [] [] ?_
          refine At.skip (norm ?_)
          refine At.sR [2] [] [] ?_
          obtain rfl := sq h
          exact At.ret (At.rR hR [])
theorem C_stack_Stack_int_Len (o0 : T_stack_Stack_int_) (r : Int) (h : F_stack_Stack_int_Len o0 = some r) : FnOK Tryz.prog 111 [.ptr 0 0] [.blk 123 [.row 1 (o0.l).length, i64 o0.most], .row 3 1 (encL (eInt .i64) o0.l)] (i64 r) [.blk 123 [.row 1 (o0.l).length, i64 o0.most], .row 3 1 (encL (eInt .i64) o0.l)] [1, 2] := by
  refine fI Tryz.func111 rfl fun E gv R hR => ?_
  refine At.sR [0] [0, 1, 2, 3] [] ?_
  refine At.seq ?_
  refine At.sR [0, 4] [0, 1, 2, 3] [] ?_
  refine At.cn ?_
  refine At.nR [0] [0, 1, 2, 3] ?_
  refine At.skip (norm ?_)
  refine At.sR [2] [0, 1, 2, 3] [] ?_
  obtain rfl := sq h
  exact At.ret (At.rR hR [0, 1])
theorem C_slices_Clone_int_int (p0 : (List Int)) (r : (List Int)) (h : F_slices_Clone_int_int p0 = some r) : FnOK Tryz.prog 112 [lv (eInt .i64) p0] [] (.row 0 (r).length) [.row 3 1 (encL (eInt .i64) r)] [] := by
  refine fI Tryz.func112 rfl fun E gv R hR => ?_
  refine At.sR [0] [] [] ?_
  refine At.seq ?_
  refine At.seq ?_
  refine At.nilEq (t0 := 0) (t3 := 3) (t4 := 4) (e := 3) (tt := false) (k := (p0).length) (xs := encL (eInt .i64) p0) rfl rfl rfl rfl rfl rfl (by decide) (by decide) (by kernel_rfl) (by kernel_rfl) ?_
  rintro (_ | _) hk
  · refine norm ?_
    refine At.nar [0, 4] [] (st' := ⟨[(0, lv (eInt .i64) p0), (4, bo false)], []⟩) (by kernel_rfl) ?_
    refine At.cn ?_
    refine At.nR [0] [] ?_
    refine At.skip (norm ?_)
    obtain ⟨g2, h⟩ := gs h
    refine At.sR [2] [0] [aT (he_int .i64) 2 ([] : List Int) p0 rfl g2] ?_
    obtain rfl := sq h
    exact At.ret (At.rR hR [0])
  · obtain rfl := List.length_eq_zero_iff.1 (hk rfl)
    obtain ⟨_, h⟩ := grd_some h
    refine norm ?_
    refine At.nar [0, 4] [] (st' := ⟨[(0, lv (eInt .i64) ([] : List Int)), (4, bo true)], []⟩) (by kernel_rfl) ?_
    refine At.cy ?_
    refine At.sR [2] [] [] ?_
    refine At.eN [.ownS 2 3 1] [2] [0] ?_
    obtain rfl := sq h
    exact At.ret (At.rR hR [0])
theorem C_stack_Stack_int_Take (p1 : Int) (o0 : T_stack_Stack_int_) (r : (List Int) × Bool × T_stack_Stack_int_) (h : F_stack_Stack_int_Take p1 o0 = some r) : FnOK Tryz.prog 73 [.ptr 0 0, i64 p1] [.blk 123 [.row 1 (o0.l).length, i64 o0.most], .row 3 1 (encL (eInt .i64) o0.l)] (.tup [.row 2 (r.1).length, bo r.2.1]) [.blk 123 [.row 1 (r.2.2.l).length, i64 r.2.2.most], .row 3 1 (encL (eInt .i64) r.2.2.l), .row 3 1 (encL (eInt .i64) r.1)] [1, 2, 3] := by
  refine fI Tryz.func73 rfl fun E gv R hR => ?_
  refine At.sR [0, 1] [0, 1, 2, 3] [] ?_
  obtain ⟨y2, hy2, h⟩ := bs h
  refine At.sR [0, 1, 6] [0, 1, 2, 3] [cT 1 2 [0, 1] (C_stack_Stack_int_Len o0 y2 hy2)] ?_
  refine At.seq ?_
  refine At.seqJ (S := Bool) (fun s => ⟨[(0, .ptr 0 0), (6, i64 (w64 (y2 - p1))), (21, bo s)], [.blk 123 [.row 1 (o0.l).length, i64 o0.most], .row 3 1 (encL (eInt .i64) o0.l), .ghost (gv 0) (.ptr 0 0), .ghost (gv 1) (.row 1 0)]⟩) (fun s => F_stack_Stack_int_Take_J1 p1 o0 y2 s = some r) ?_ ?_
  · rcases cs h with ⟨b23, h⟩ | ⟨b23, h⟩
    · exact At.rK [0, 6, 21] [0, 1, 2, 3] [bT 6 b23] fun _ _ i => ⟨true, h, i⟩
    · exact At.rK [0, 6, 21] [0, 1, 2, 3] [bT 6 b23] fun _ _ i => ⟨(decide ((w64 (y2 - p1)) < 0)), h, i⟩
  · intro x8 h
    refine At.cd h (fun b9 h => ?_) (fun b9 h => ?_)
    · refine At.sR [4, 5] [0, 1, 2, 3] [] ?_
      refine At.eN [.hideG 3, .ownS 4 3 1] [4, 5] [0, 1, 2, 3, 4] ?_
      obtain rfl := sq h
      exact At.ret (At.rR hR [0, 1, 4])
    · refine At.nR [0, 6] [0, 1, 2, 3] ?_
      refine At.skip (norm ?_)
      refine At.seqJ (S := (List Int)) (fun s => ⟨[(0, .ptr 0 0), (6, i64 (w64 (y2 - p1))), (7, .row 4 (s).length)], [.blk 123 [.row 1 (o0.l).length, i64 o0.most], .row 3 1 (encL (eInt .i64) o0.l), .ghost (gv 0) (.ptr 0 0), .ghost (gv 1) (.row 1 0), .row 3 1 (encL (eInt .i64) s)]⟩) (fun s => F_stack_Stack_int_Take_J2 p1 o0 y2 s = some r) ?_ ?_
      · rcases tf (decide ((w64 (y2 - p1)) < ((o0.l).length : Int))) with b18 | b18
        · replace h := cond_t b18 h
          obtain ⟨g19, h⟩ := gs h
          obtain ⟨y20, hy20, h⟩ := bs h
          exact At.rK [0, 6, 7] [0, 1, 2, 3, 4] [tT 5 ({ orc := .pcells [] }) (allc g19 all0), cT 6 1 [1, 4] (FnOK.lent (args := [.view 0 (Int.toNat (w64 (y2 - p1)) * 1) (Int.toNat (((o0.l).length : Int) - (w64 (y2 - p1))))]) (σ := [.row 3 1 (encL (eInt .i64) o0.l)]) (res' := .row 1 (y20).length) (C_slices_Clone_int_int (lCut o0.l (w64 (y2 - p1)) ((o0.l).length : Int)) y20 hy20) (hk := asDs_view (e := 3) (he_int .i64) g19) (hs := sc_row (fun _ => rfl) y20))] fun _ _ i => ⟨y20, h, i⟩
        · replace h := cond_f b18 h
          obtain ⟨g21, h⟩ := gs h
          obtain ⟨y22, hy22, h⟩ := bs h
          exact At.rK [0, 6, 7] [0, 1, 2, 3, 4] [tT 5 ({ orc := .nums [] }) (allc g21 all0), cT 6 0 [4] (C_slices_Clone_int_int ([] : List Int) y22 hy22)] fun _ _ i => ⟨y22, h, i⟩
      · intro x15 h
        obtain ⟨g17, h⟩ := gs h
        refine At.sR [7] [0, 1, 2, 3, 4] [tT 7 ({ orc := .ents [], form := some ((lCut o0.l 0 (w64 (y2 - p1))).length, encL (eInt .i64) (lCut o0.l 0 (w64 (y2 - p1)))) }) (allc ((trunc_ok (he_int .i64) g17).1) (allc ((trunc_ok (he_int .i64) g17).2) (allc g17 all0)))] ?_
        refine At.sR [4, 5] [0, 1, 2, 3, 4] [] ?_
        obtain rfl := sq h
        exact At.ret (At.rR hR [0, 1, 4])
theorem C_arith_bit (p0 : Bool) (r : Int) (h : F_arith_bit p0 = some r) : FnOK Tryz.prog 163 [bo p0] [] (i64 r) [] [] := by
  refine fI Tryz.func163 rfl fun E gv R hR => ?_
  refine At.sR [0] [] [] ?_
  refine At.seq ?_
  refine At.sR [3] [] [] ?_
  refine At.cd h (fun b2 h => ?_) (fun b2 h => ?_)
  · refine At.sR [2] [] [] ?_
    obtain rfl := sq h
    exact At.ret (At.rR hR [])
  · refine At.nR [] [] ?_
    refine At.skip (norm ?_)
    refine At.sR [2] [] [] ?_
    obtain rfl := sq h
    exact At.ret (At.rR hR [])
theorem C_arith_compared (p0 : Int) (p1 : Int) (r : Int × Int × Int × Int × Int × Int × Int × Int × Int) (h : F_arith_compared p0 p1 = some r) : FnOK Tryz.prog 147 [i64 p0, i64 p1] [] (.mapv 0) [.mp [.int .i64 10, .int .i64 11, .int .i64 12, .int .i64 13, .int .i64 14, .int .i64 15, .int .i64 16, .int .i64 17, .int .i64 4] [i64 r.1, i64 r.2.1, i64 r.2.2.1, i64 r.2.2.2.1, i64 r.2.2.2.2.1, i64 r.2.2.2.2.2.1, i64 r.2.2.2.2.2.2.1, i64 r.2.2.2.2.2.2.2.1, i64 r.2.2.2.2.2.2.2.2]] [] := by
  refine fI Tryz.func147 rfl fun E gv R hR => ?_
  refine At.sR [0, 1] [] [] ?_
  refine At.seqJ (S := Int × Int × Int × Int × Int × Int × Int × Int × Int) (fun s => ⟨[(4, .mapv 0)], [.mp [.int .i64 10, .int .i64 11, .int .i64 12, .int .i64 13, .int .i64 14, .int .i64 15, .int .i64 16, .int .i64 17, .int .i64 4] [i64 s.1, i64 s.2.1, i64 s.2.2.1, i64 s.2.2.2.1, i64 s.2.2.2.2.1, i64 s.2.2.2.2.2.1, i64 s.2.2.2.2.2.2.1, i64 s.2.2.2.2.2.2.2.1, i64 s.2.2.2.2.2.2.2.2]]⟩) (fun s => F_arith_compared_J1 s.1 s.2.1 s.2.2.1 s.2.2.2.1 s.2.2.2.2.1 s.2.2.2.2.2.1 s.2.2.2.2.2.2.1 s.2.2.2.2.2.2.2.1 s.2.2.2.2.2.2.2.2 = some r) ?_ ?_
  · obtain ⟨y29, hy29, h⟩ := bs h
    obtain ⟨y30, hy30, h⟩ := bs h
    obtain ⟨y31, hy31, h⟩ := bs h
    obtain ⟨y32, hy32, h⟩ := bs h
    obtain ⟨y33, hy33, h⟩ := bs h
    obtain ⟨y34, hy34, h⟩ := bs h
    rcases cs h with ⟨b35, h⟩ | ⟨b35, h⟩
    · obtain ⟨y36, hy36, h⟩ := bs h
      rcases cs h with ⟨b37, h⟩ | ⟨b37, h⟩
      · obtain ⟨y38, hy38, h⟩ := bs h
        obtain ⟨y39, hy39, h⟩ := bs h
        exact At.rK [4] [0] [c0 4 (C_arith_bit (p0 == p1) y29 hy29), c0 9 (C_arith_bit (p0 != p1) y30 hy30), c0 14 (C_arith_bit (decide (p0 < p1)) y31 hy31), c0 19 (C_arith_bit (decide (p0 ≤ p1)) y32 hy32), c0 24 (C_arith_bit (decide (p1 < p0)) y33 hy33), c0 29 (C_arith_bit (decide (p1 ≤ p0)) y34 hy34), bT 33 b35, c0 37 (C_arith_bit (p1 != 0) y36 hy36), bT 41 b37, c0 45 (C_arith_bit true y38 hy38), c0 49 (C_arith_bit (p0 == 0) y39 hy39)] fun _ _ i => ⟨(y29, y30, y31, y32, y33, y34, y36, y38, y39), h, i⟩
      · obtain ⟨y40, hy40, h⟩ := bs h
        obtain ⟨y41, hy41, h⟩ := bs h
        exact At.rK [4] [0] [c0 4 (C_arith_bit (p0 == p1) y29 hy29), c0 9 (C_arith_bit (p0 != p1) y30 hy30), c0 14 (C_arith_bit (decide (p0 < p1)) y31 hy31), c0 19 (C_arith_bit (decide (p0 ≤ p1)) y32 hy32), c0 24 (C_arith_bit (decide (p1 < p0)) y33 hy33), c0 29 (C_arith_bit (decide (p1 ≤ p0)) y34 hy34), bT 33 b35, c0 37 (C_arith_bit (p1 != 0) y36 hy36), bT 41 b37, c0 45 (C_arith_bit (p1 != 0) y40 hy40), c0 49 (C_arith_bit (p0 == 0) y41 hy41)] fun _ _ i => ⟨(y29, y30, y31, y32, y33, y34, y36, y40, y41), h, i⟩
    · obtain ⟨y42, hy42, h⟩ := bs h
      rcases cs h with ⟨b43, h⟩ | ⟨b43, h⟩
      · obtain ⟨y44, hy44, h⟩ := bs h
        obtain ⟨y45, hy45, h⟩ := bs h
        exact At.rK [4] [0] [c0 4 (C_arith_bit (p0 == p1) y29 hy29), c0 9 (C_arith_bit (p0 != p1) y30 hy30), c0 14 (C_arith_bit (decide (p0 < p1)) y31 hy31), c0 19 (C_arith_bit (decide (p0 ≤ p1)) y32 hy32), c0 24 (C_arith_bit (decide (p1 < p0)) y33 hy33), c0 29 (C_arith_bit (decide (p1 ≤ p0)) y34 hy34), bT 33 b35, c0 37 (C_arith_bit false y42 hy42), bT 41 b43, c0 45 (C_arith_bit true y44 hy44), c0 49 (C_arith_bit (p0 == 0) y45 hy45)] fun _ _ i => ⟨(y29, y30, y31, y32, y33, y34, y42, y44, y45), h, i⟩
      · obtain ⟨y46, hy46, h⟩ := bs h
        obtain ⟨y47, hy47, h⟩ := bs h
        exact At.rK [4] [0] [c0 4 (C_arith_bit (p0 == p1) y29 hy29), c0 9 (C_arith_bit (p0 != p1) y30 hy30), c0 14 (C_arith_bit (decide (p0 < p1)) y31 hy31), c0 19 (C_arith_bit (decide (p0 ≤ p1)) y32 hy32), c0 24 (C_arith_bit (decide (p1 < p0)) y33 hy33), c0 29 (C_arith_bit (decide (p1 ≤ p0)) y34 hy34), bT 33 b35, c0 37 (C_arith_bit false y42 hy42), bT 41 b43, c0 45 (C_arith_bit (p1 != 0) y46 hy46), c0 49 (C_arith_bit (p0 == 0) y47 hy47)] fun _ _ i => ⟨(y29, y30, y31, y32, y33, y34, y42, y46, y47), h, i⟩
  · rintro ⟨x20, x21, x22, x23, x24, x25, x26, x27, x28⟩ h
    replace h : F_arith_compared_J1 x20 x21 x22 x23 x24 x25 x26 x27 x28 = some r := h
    obtain rfl := sq h
    exact At.ret (At.rR hR [0])
theorem C_arith_Apply (p0 : Int) (p1 : Int) (p2 : Int) (r : Int × Int) (h : F_arith_Apply p0 p1 p2 = some r) : FnOK Tryz.prog 108 [i64 p0, i64 p1, i64 p2] [] (.tup [i64 r.1, i64 r.2]) [] [] := by
  refine fI Tryz.func108 rfl fun E gv R hR => ?_
  refine At.sR [0, 1, 2] [] [] ?_
  refine At.seq ?_
  refine At.sR [0, 1, 2, 8] [] [] ?_
  refine At.block ?_
  refine At.sR [0, 1, 2, 8, 9] [] [] ?_
  refine At.cd h (fun b19 h => ?_) (fun b19 h => ?_)
  · refine At.sR [6, 7] [] [] ?_
    obtain rfl := sq h
    exact At.ret (At.rR hR [])
  · refine At.sR [0, 1, 2, 8, 13] [] [] ?_
    refine At.cd h (fun b20 h => ?_) (fun b20 h => ?_)
    · refine At.sR [6, 7] [] [] ?_
      obtain rfl := sq h
      exact At.ret (At.rR hR [])
    · refine At.sR [0, 1, 2, 8, 18] [] [] ?_
      refine At.cd h (fun b21 h => ?_) (fun b21 h => ?_)
      · refine At.seq ?_
        refine At.rK (st' := ⟨[(6, i64 (w64 (p1 - p2))), (7, i64 0)], []⟩) [6, 7] [] [] (norm ?_)
        obtain rfl := sq h
        exact At.ret (At.rR hR [])
      · refine At.seq ?_
        refine At.rK (st' := ⟨[(0, i64 p0), (1, i64 p1), (2, i64 p2), (8, i64 p0), (23, bo (p0 == 7))], []⟩) [0, 1, 2, 8, 23] [] [] (norm ?_)
        refine At.cd h (fun b22 h => ?_) (fun b22 h => ?_)
        · refine At.sR [6, 7] [] [] ?_
          obtain rfl := sq h
          exact At.ret (At.rR hR [])
        · refine At.seqJ (S := Bool) (fun s => ⟨[(0, i64 p0), (1, i64 p1), (2, i64 p2), (28, bo s)], []⟩) (fun s => F_arith_Apply_J1 p0 p1 p2 s = some r) ?_ ?_
          · refine At.sR [0, 1, 2, 8, 28] [] [] ?_
            refine At.cd h (fun b38 h => ?_) (fun b38 h => ?_)
            · refine At.nR [0, 1, 2, 28] [] ?_
              refine At.skip (fun _ _ i => ⟨(p0 == 8), h, i.en [] [0, 1, 2, 28] []⟩)
            · exact At.rK [0, 1, 2, 28] [] [] fun _ _ i => ⟨(p0 == 9), h, i⟩
          · intro x24 h
            refine At.cd h (fun b25 h => ?_) (fun b25 h => ?_)
            · refine At.seq ?_
              refine At.sR [0, 1, 2, 32] [] [] ?_
              refine At.cd h (fun b27 h => ?_) (fun b27 h => ?_)
              · refine At.sR [6, 7] [] [] ?_
                obtain rfl := sq h
                exact At.ret (At.rR hR [])
              · refine At.nR [0, 1, 2] [] ?_
                refine At.skip (norm ?_)
                refine At.seq ?_
                refine At.sR [1, 2, 34] [] [] ?_
                refine At.cd h (fun b31 h => ?_) (fun b31 h => ?_)
                · obtain ⟨g33, h⟩ := gs h
                  refine At.sR [6, 7] [] [oT 2 g33] ?_
                  obtain rfl := sq h
                  exact At.ret (At.rR hR [])
                · refine At.nR [1, 2] [] ?_
                  refine At.skip (norm ?_)
                  obtain ⟨g35, h⟩ := gs h
                  refine At.sR [6, 7] [] [oT 2 g35] ?_
                  obtain rfl := sq h
                  exact At.ret (At.rR hR [])
            · refine At.nR [0, 1, 2] [] ?_
              refine At.skip (norm ?_)
              obtain ⟨y37, hy37, h⟩ := bs h
              refine At.sR [6, 7] [] [cT 2 0 [0] (C_arith_compared p1 p2 y37 hy37)] ?_
              obtain rfl := sq h
              exact At.ret (At.rR hR [])
theorem C_run_runner_reckon (p1 : Int) (o0_0 : (List T_api_Ins)) (o0_1 : (List T_api_Def)) (o0_2 : (List T_api_Chan)) (o0_3 : Int) (o0_4 : Int) (o0_5 : Int) (o0_6 : Int) (o0_8 : Int) (o0_9 : Int) (o0_10 : Int) (o0_11 : Int) (o0_12 : Int) (o0_13 : Int) (o0_14 : Int) (o0_15 : (List T_api_Alt)) (o0_17 : Int) (o0_18 : Int) (o0_19 : Int) (o0_20 : Int) (o0_21 : Int) (o0_22 : Int) (o0_23 : Int) (o0_24 : Int) (o0_27 : Int) (o0_28 : Bool) (o2 : T_stack_Stack_int_) (o1 : (List Int)) (o4 : (List Int)) (o5 : (List T_api_Alt)) (r : (List T_api_Ins) × (List T_api_Def) × (List T_api_Chan) × Int × Int × Int × Int × Int × Int × Int × Int × Int × Int × Int × (List T_api_Alt) × Int × Int × Int × Int × Int × Int × Int × Int × Int × Bool × T_stack_Stack_int_ × (List Int) × (List T_api_Alt)) (h : F_run_runner_reckon p1 o0_0 o0_1 o0_2 o0_3 o0_4 o0_5 o0_6 o0_8 o0_9 o0_10 o0_11 o0_12 o0_13 o0_14 o0_15 o0_17 o0_18 o0_19 o0_20 o0_21 o0_22 o0_23 o0_24 o0_27 o0_28 o2 o1 o4 o5 = some r) : FnOK Tryz.prog 65 [.ptr 0 0, i64 p1] [.blk 81 [lv T_api_Ins.enc o0_0, lv T_api_Def.enc o0_1, lv T_api_Chan.enc o0_2, i64 o0_3, i64 o0_4, i64 o0_5, i64 o0_6, .row 1 (o1).length, i64 o0_8, i64 o0_9, i64 o0_10, i64 o0_11, i64 o0_12, i64 o0_13, i64 o0_14, lv T_api_Alt.enc o0_15, .ptr 2 0, i64 o0_17, i64 o0_18, i64 o0_19, i64 o0_20, i64 o0_21, i64 o0_22, i64 o0_23, i64 o0_24, .row 4 (o4).length, .row 5 (o5).length, i64 o0_27, bo o0_28], .row 3 1 (encL (eInt .i64) o1), .blk 123 [.row 3 (o2.l).length, i64 o2.most], .row 3 1 (encL (eInt .i64) o2.l), .row 3 1 (encL (eInt .i64) o4), .row 47 5 (encL T_api_Alt.enc o5)] (.tup []) [.blk 81 [lv T_api_Ins.enc r.1, lv T_api_Def.enc r.2.1, lv T_api_Chan.enc r.2.2.1, i64 r.2.2.2.1, i64 r.2.2.2.2.1, i64 r.2.2.2.2.2.1, i64 r.2.2.2.2.2.2.1, .row 1 (o1).length, i64 r.2.2.2.2.2.2.2.1, i64 r.2.2.2.2.2.2.2.2.1, i64 r.2.2.2.2.2.2.2.2.2.1, i64 r.2.2.2.2.2.2.2.2.2.2.1, i64 r.2.2.2.2.2.2.2.2.2.2.2.1, i64 r.2.2.2.2.2.2.2.2.2.2.2.2.1, i64 r.2.2.2.2.2.2.2.2.2.2.2.2.2.1, lv T_api_Alt.enc r.2.2.2.2.2.2.2.2.2.2.2.2.2.2.1, .ptr 2 0, i64 r.2.2.2.2.2.2.2.2.2.2.2.2.2.2.2.1, i64 r.2.2.2.2.2.2.2.2.2.2.2.2.2.2.2.2.1, i64 r.2.2.2.2.2.2.2.2.2.2.2.2.2.2.2.2.2.1, i64 r.2.2.2.2.2.2.2.2.2.2.2.2.2.2.2.2.2.2.1, i64 r.2.2.2.2.2.2.2.2.2.2.2.2.2.2.2.2.2.2.2.1, i64 r.2.2.2.2.2.2.2.2.2.2.2.2.2.2.2.2.2.2.2.2.1, i64 r.2.2.2.2.2.2.2.2.2.2.2.2.2.2.2.2.2.2.2.2.2.1, i64 r.2.2.2.2.2.2.2.2.2.2.2.2.2.2.2.2.2.2.2.2.2.2.1, .row 4 (r.2.2.2.2.2.2.2.2.2.2.2.2.2.2.2.2.2.2.2.2.2.2.2.2.2.2.1).length, .row 5 (r.2.2.2.2.2.2.2.2.2.2.2.2.2.2.2.2.2.2.2.2.2.2.2.2.2.2.2).length, i64 r.2.2.2.2.2.2.2.2.2.2.2.2.2.2.2.2.2.2.2.2.2.2.2.1, bo r.2.2.2.2.2.2.2.2.2.2.2.2.2.2.2.2.2.2.2.2.2.2.2.2.1], .row 3 1 (encL (eInt .i64) o1), .blk 123 [.row 3 (r.2.2.2.2.2.2.2.2.2.2.2.2.2.2.2.2.2.2.2.2.2.2.2.2.2.1.l).length, i64 r.2.2.2.2.2.2.2.2.2.2.2.2.2.2.2.2.2.2.2.2.2.2.2.2.2.1.most], .row 3 1 (encL (eInt .i64) r.2.2.2.2.2.2.2.2.2.2.2.2.2.2.2.2.2.2.2.2.2.2.2.2.2.1.l), .row 3 1 (encL (eInt .i64) r.2.2.2.2.2.2.2.2.2.2.2.2.2.2.2.2.2.2.2.2.2.2.2.2.2.2.1), .row 47 5 (encL T_api_Alt.enc r.2.2.2.2.2.2.2.2.2.2.2.2.2.2.2.2.2.2.2.2.2.2.2.2.2.2.2)] [1, 2, 5, 6, 7, 8, 9, 10, 11] := by
  refine fI Tryz.func65 rfl fun E gv R hR => ?_
  obtain ⟨y3, hy3, h⟩ := bs h
  obtain ⟨y4, hy4, h⟩ := bs h
  refine At.sD 1 [0, 1, 4] [0, 1, 2, 3, 4, 5, 6, 7, 8, 9, 10, 11, 12] [c0 5 (C_arith_Wide p1 y3 hy3), cT 6 2 [2, 3, 12] (C_stack_Stack_int_Take y3 o2 y4 hy4)] ?_
  obtain ⟨g6, h⟩ := gs h
  refine At.sR [0, 1, 4] [0, 1, 2, 3, 4, 5, 6, 7, 8, 9, 10, 11, 12] [aT (he_int .i64) 2 y4.1 ([0, 0]) rfl g6] ?_
  obtain ⟨y10, hy10, h⟩ := bs h
  obtain ⟨y11, hy11, h⟩ := bs h
  obtain ⟨y12, hy12, h⟩ := bs h
  refine At.sD 0 [0, 6, 7] [0, 1, 2, 3, 4, 5, 6, 7, 8, 9, 10, 11] [oT 2 ((rAt_of (he_int .i64) (d := .int .i64 y10) hy10 rfl).1), vT 3 (.int .i64 y10) ((rAt_of (he_int .i64) (d := .int .i64 y10) hy10 rfl).2), oT 5 ((rAt_of (he_int .i64) (d := .int .i64 y11) hy11 rfl).1), vT 6 (.int .i64 y11) ((rAt_of (he_int .i64) (d := .int .i64 y11) hy11 rfl).2), c0 7 (C_arith_Apply p1 y10 y11 y12 hy12)] ?_
  refine At.seq ?_
  refine At.sR [0, 6, 7, 33] [0, 1, 2, 3, 4, 5, 6, 7, 8, 9, 10, 11] [] ?_
  refine At.cd h (fun b16 h => ?_) (fun b16 h => ?_)
  · obtain ⟨y18, hy18, h⟩ := bs h
    refine At.sR [] [0, 1, 2, 3, 4, 5, 6, 7, 8, 9, 10, 11] [cT 2 6 [0, 1, 2, 3, 4, 5] (C_run_runner_fault y12.2 o0_0 o0_1 o0_2 o0_3 o0_4 o0_5 o0_6 o0_8 o0_9 o0_10 o0_11 o0_12 o0_13 o0_14 o0_15 o0_17 o0_18 o0_19 o0_20 o0_21 o0_22 o0_23 o0_24 o0_27 o0_28 y4.2.2 o1 o4 o5 y18 hy18)] ?_
    obtain rfl := sq h
    exact At.ret (At.rR hR [0, 1, 2, 3, 4, 5])
  · refine At.nR [0, 6] [0, 1, 2, 3, 4, 5, 6, 7, 8, 9, 10, 11] ?_
    refine At.skip (norm ?_)
    obtain ⟨y19, hy19, h⟩ := bs h
    obtain rfl := sq h
    refine At.rK (st' := ⟨[], [.blk 81 [lv T_api_Ins.enc y19.1, lv T_api_Def.enc y19.2.1, lv T_api_Chan.enc y19.2.2.1, i64 y19.2.2.2.1, i64 y19.2.2.2.2.1, i64 y19.2.2.2.2.2.1, i64 y19.2.2.2.2.2.2.1, .row 1 (o1).length, i64 y19.2.2.2.2.2.2.2.1, i64 y19.2.2.2.2.2.2.2.2.1, i64 y19.2.2.2.2.2.2.2.2.2.1, i64 y19.2.2.2.2.2.2.2.2.2.2.1, i64 y19.2.2.2.2.2.2.2.2.2.2.2.1, i64 y19.2.2.2.2.2.2.2.2.2.2.2.2.1, i64 y19.2.2.2.2.2.2.2.2.2.2.2.2.2.1, lv T_api_Alt.enc y19.2.2.2.2.2.2.2.2.2.2.2.2.2.2.1, .ptr 2 0, i64 y19.2.2.2.2.2.2.2.2.2.2.2.2.2.2.2.1, i64 y19.2.2.2.2.2.2.2.2.2.2.2.2.2.2.2.2.1, i64 y19.2.2.2.2.2.2.2.2.2.2.2.2.2.2.2.2.2.1, i64 y19.2.2.2.2.2.2.2.2.2.2.2.2.2.2.2.2.2.2.1, i64 y19.2.2.2.2.2.2.2.2.2.2.2.2.2.2.2.2.2.2.2.1, i64 y19.2.2.2.2.2.2.2.2.2.2.2.2.2.2.2.2.2.2.2.2.1, i64 y19.2.2.2.2.2.2.2.2.2.2.2.2.2.2.2.2.2.2.2.2.2.1, i64 y19.2.2.2.2.2.2.2.2.2.2.2.2.2.2.2.2.2.2.2.2.2.2.1, .row 4 (y19.2.2.2.2.2.2.2.2.2.2.2.2.2.2.2.2.2.2.2.2.2.2.2.2.2.2.1).length, .row 5 (y19.2.2.2.2.2.2.2.2.2.2.2.2.2.2.2.2.2.2.2.2.2.2.2.2.2.2.2).length, i64 y19.2.2.2.2.2.2.2.2.2.2.2.2.2.2.2.2.2.2.2.2.2.2.2.1, bo y19.2.2.2.2.2.2.2.2.2.2.2.2.2.2.2.2.2.2.2.2.2.2.2.2.1], .row 3 1 (encL (eInt .i64) o1), .blk 123 [.row 3 (y19.2.2.2.2.2.2.2.2.2.2.2.2.2.2.2.2.2.2.2.2.2.2.2.2.2.1.l).length, i64 y19.2.2.2.2.2.2.2.2.2.2.2.2.2.2.2.2.2.2.2.2.2.2.2.2.2.1.most], .row 3 1 (encL (eInt .i64) y19.2.2.2.2.2.2.2.2.2.2.2.2.2.2.2.2.2.2.2.2.2.2.2.2.2.1.l), .row 3 1 (encL (eInt .i64) y19.2.2.2.2.2.2.2.2.2.2.2.2.2.2.2.2.2.2.2.2.2.2.2.2.2.2.1), .row 47 5 (encL T_api_Alt.enc y19.2.2.2.2.2.2.2.2.2.2.2.2.2.2.2.2.2.2.2.2.2.2.2.2.2.2.2), .ghost (gv 0) (.ptr 0 0), .ghost (gv 1) (.row 1 0), .ghost (gv 2) (.ptr 2 0), .ghost (gv 3) (.undef), .ghost (gv 4) (.undef), .ghost (gv 5) (.undef)]⟩) [] [0, 1, 2, 3, 4, 5, 6, 7, 8, 9, 10, 11] [cT 3 7 [0, 1, 2, 3, 4, 5, 12] (C_run_runner_lay o0_0 o0_1 o0_2 o0_3 o0_4 o0_5 o0_6 o0_8 o0_9 o0_10 o0_11 o0_12 o0_13 o0_14 o0_15 o0_17 o0_18 o0_19 o0_20 o0_21 o0_22 o0_23 o0_24 o0_27 o0_28 y4.2.2 o1 o4 o5 ([y12.1]) y19 hy19)] (At.rN hR [0, 1, 2, 3, 4, 5])
theorem C_run_runner_jump (p1 : Int) (p2 : Bool) (o0_0 : (List T_api_Ins)) (o0_1 : (List T_api_Def)) (o0_2 : (List T_api_Chan)) (o0_3 : Int) (o0_4 : Int) (o0_5 : Int) (o0_6 : Int) (o0_8 : Int) (o0_9 : Int) (o0_10 : Int) (o0_11 : Int) (o0_12 : Int) (o0_13 : Int) (o0_14 : Int) (o0_15 : (List T_api_Alt)) (o0_17 : Int) (o0_18 : Int) (o0_19 : Int) (o0_20 : Int) (o0_21 : Int) (o0_22 : Int) (o0_23 : Int) (o0_24 : Int) (o0_27 : Int) (o0_28 : Bool) (o2 : T_stack_Stack_int_) (o1 : (List Int)) (o4 : (List Int)) (o5 : (List T_api_Alt)) (r : (List T_api_Ins) × (List T_api_Def) × (List T_api_Chan) × Int × Int × Int × Int × Int × Int × Int × Int × Int × Int × Int × (List T_api_Alt) × Int × Int × Int × Int × Int × Int × Int × Int × Int × Bool) (h : F_run_runner_jump p1 p2 o0_0 o0_1 o0_2 o0_3 o0_4 o0_5 o0_6 o0_8 o0_9 o0_10 o0_11 o0_12 o0_13 o0_14 o0_15 o0_17 o0_18 o0_19 o0_20 o0_21 o0_22 o0_23 o0_24 o0_27 o0_28 o2 o1 o4 o5 = some r) : FnOK Tryz.prog 66 [.ptr 0 0, i64 p1, bo p2] [.blk 81 [lv T_api_Ins.enc o0_0, lv T_api_Def.enc o0_1, lv T_api_Chan.enc o0_2, i64 o0_3, i64 o0_4, i64 o0_5, i64 o0_6, .row 1 (o1).length, i64 o0_8, i64 o0_9, i64 o0_10, i64 o0_11, i64 o0_12, i64 o0_13, i64 o0_14, lv T_api_Alt.enc o0_15, .ptr 2 0, i64 o0_17, i64 o0_18, i64 o0_19, i64 o0_20, i64 o0_21, i64 o0_22, i64 o0_23, i64 o0_24, .row 4 (o4).length, .row 5 (o5).length, i64 o0_27, bo o0_28], .row 3 1 (encL (eInt .i64) o1), .blk 123 [.row 3 (o2.l).length, i64 o2.most], .row 3 1 (encL (eInt .i64) o2.l), .row 3 1 (encL (eInt .i64) o4), .row 47 5 (encL T_api_Alt.enc o5)] (.tup []) [.blk 81 [lv T_api_Ins.enc r.1, lv T_api_Def.enc r.2.1, lv T_api_Chan.enc r.2.2.1, i64 r.2.2.2.1, i64 r.2.2.2.2.1, i64 r.2.2.2.2.2.1, i64 r.2.2.2.2.2.2.1, .row 1 (o1).length, i64 r.2.2.2.2.2.2.2.1, i64 r.2.2.2.2.2.2.2.2.1, i64 r.2.2.2.2.2.2.2.2.2.1, i64 r.2.2.2.2.2.2.2.2.2.2.1, i64 r.2.2.2.2.2.2.2.2.2.2.2.1, i64 r.2.2.2.2.2.2.2.2.2.2.2.2.1, i64 r.2.2.2.2.2.2.2.2.2.2.2.2.2.1, lv T_api_Alt.enc r.2.2.2.2.2.2.2.2.2.2.2.2.2.2.1, .ptr 2 0, i64 r.2.2.2.2.2.2.2.2.2.2.2.2.2.2.2.1, i64 r.2.2.2.2.2.2.2.2.2.2.2.2.2.2.2.2.1, i64 r.2.2.2.2.2.2.2.2.2.2.2.2.2.2.2.2.2.1, i64 r.2.2.2.2.2.2.2.2.2.2.2.2.2.2.2.2.2.2.1, i64 r.2.2.2.2.2.2.2.2.2.2.2.2.2.2.2.2.2.2.2.1, i64 r.2.2.2.2.2.2.2.2.2.2.2.2.2.2.2.2.2.2.2.2.1, i64 r.2.2.2.2.2.2.2.2.2.2.2.2.2.2.2.2.2.2.2.2.2.1, i64 r.2.2.2.2.2.2.2.2.2.2.2.2.2.2.2.2.2.2.2.2.2.2.1, .row 4 (o4).length, .row 5 (o5).length, i64 r.2.2.2.2.2.2.2.2.2.2.2.2.2.2.2.2.2.2.2.2.2.2.2.1, bo r.2.2.2.2.2.2.2.2.2.2.2.2.2.2.2.2.2.2.2.2.2.2.2.2], .row 3 1 (encL (eInt .i64) o1), .blk 123 [.row 3 (o2.l).length, i64 o2.most], .row 3 1 (encL (eInt .i64) o2.l), .row 3 1 (encL (eInt .i64) o4), .row 47 5 (encL T_api_Alt.enc o5)] [1, 2, 5, 6, 8, 10] := by
  refine fI Tryz.func66 rfl fun E gv R hR => ?_
  refine At.sR [0, 1, 6] [0, 1, 2, 3, 4, 5, 6, 7, 8, 9, 10, 11] [] ?_
  refine At.cd h (fun b1 h => ?_) (fun b1 h => ?_)
  · obtain rfl := sq h
    refine At.rG [] [0, 1, 2, 3, 4, 5, 6, 7, 8, 9, 10, 11] [] (edq (l := []) (ks := []) (ρ := [0, 1, 2, 3, 4, 5, 6, 7, 8, 9, 10, 11]) (st' := ⟨[], [.blk 81 [lv T_api_Ins.enc o0_0, lv T_api_Def.enc o0_1, lv T_api_Chan.enc o0_2, i64 o0_3, i64 o0_4, i64 o0_5, i64 o0_6, .row 1 (o1).length, i64 o0_8, i64 o0_9, i64 o0_10, i64 o0_11, i64 o0_12, i64 o0_13, i64 o0_14, lv T_api_Alt.enc o0_15, .ptr 2 0, i64 p1, i64 o0_18, i64 o0_19, i64 o0_20, i64 o0_21, i64 o0_22, i64 o0_23, i64 o0_24, .row 4 (o4).length, .row 5 (o5).length, i64 o0_27, bo o0_28], .row 3 1 (encL (eInt .i64) o1), .blk 123 [.row 3 (o2.l).length, i64 o2.most], .row 3 1 (encL (eInt .i64) o2.l), .row 3 1 (encL (eInt .i64) o4), .row 47 5 (encL T_api_Alt.enc o5), .ghost (gv 0) (.ptr 0 0), .ghost (gv 1) (.row 1 0), .ghost (gv 2) (.ptr 2 0), .ghost (gv 3) (.row 3 0), .ghost (gv 4) (.row 4 0), .ghost (gv 5) (.row 5 0)]⟩) (by kernel_rfl) (At.rN hR [0, 1, 2, 3, 4, 5]))
  · refine At.nR [] [0, 1, 2, 3, 4, 5, 6, 7, 8, 9, 10, 11] ?_
    obtain rfl := sq h
    refine At.skip (edq (l := []) (ks := []) (ρ := [0, 1, 2, 3, 4, 5, 6, 7, 8, 9, 10, 11]) (st' := ⟨[], [.blk 81 [lv T_api_Ins.enc o0_0, lv T_api_Def.enc o0_1, lv T_api_Chan.enc o0_2, i64 o0_3, i64 o0_4, i64 o0_5, i64 o0_6, .row 1 (o1).length, i64 o0_8, i64 o0_9, i64 o0_10, i64 o0_11, i64 o0_12, i64 o0_13, i64 o0_14, lv T_api_Alt.enc o0_15, .ptr 2 0, i64 o0_17, i64 o0_18, i64 o0_19, i64 o0_20, i64 o0_21, i64 o0_22, i64 o0_23, i64 o0_24, .row 4 (o4).length, .row 5 (o5).length, i64 o0_27, bo o0_28], .row 3 1 (encL (eInt .i64) o1), .blk 123 [.row 3 (o2.l).length, i64 o2.most], .row 3 1 (encL (eInt .i64) o2.l), .row 3 1 (encL (eInt .i64) o4), .row 47 5 (encL T_api_Alt.enc o5), .ghost (gv 0) (.ptr 0 0), .ghost (gv 1) (.row 1 0), .ghost (gv 2) (.ptr 2 0), .ghost (gv 3) (.row 3 0), .ghost (gv 4) (.row 4 0), .ghost (gv 5) (.row 5 0)]⟩) (by kernel_rfl) (At.rN hR [0, 1, 2, 3, 4, 5]))
theorem C_stack_Stack_int_Pop (o0 : T_stack_Stack_int_) (r : Int × Bool × T_stack_Stack_int_) (h : F_stack_Stack_int_Pop o0 = some r) : FnOK Tryz.prog 109 [.ptr 0 0] [.blk 123 [.row 1 (o0.l).length, i64 o0.most], .row 3 1 (encL (eInt .i64) o0.l)] (.tup [i64 r.1, bo r.2.1]) [.blk 123 [.row 1 (r.2.2.l).length, i64 r.2.2.most], .row 3 1 (encL (eInt .i64) r.2.2.l)] [1, 2, 3] := by
  refine fI Tryz.func109 rfl fun E gv R hR => ?_
  refine At.sR [0] [0, 1, 2, 3] [] ?_
  obtain ⟨y2, hy2, h⟩ := bs h
  refine At.sR [4, 5] [0, 1, 2, 3, 4] [cT 1 2 [0, 1, 4] (C_stack_Stack_int_Take 1 o0 y2 hy2)] ?_
  refine At.seq ?_
  refine At.sR [4, 13] [0, 1, 2, 3, 4] [] ?_
  refine At.cd h (fun b4 h => ?_) (fun b4 h => ?_)
  · refine At.sR [6] [0, 1, 2, 3] [] ?_
    refine At.sR [2, 3] [0, 1, 2, 3] [] ?_
    obtain rfl := sq h
    exact At.ret (At.rR hR [0, 1])
  · refine At.nR [4] [0, 1, 2, 3, 4] ?_
    refine At.skip (norm ?_)
    obtain ⟨y6, hy6, h⟩ := bs h
    refine At.sR [2, 3] [0, 1, 2, 3] [oT 1 ((rAt_of (he_int .i64) (d := .int .i64 y6) hy6 rfl).1), vT 2 (.int .i64 y6) ((rAt_of (he_int .i64) (d := .int .i64 y6) hy6 rfl).2)] ?_
    obtain rfl := sq h
    exact At.ret (At.rR hR [0, 1])
theorem C_run_runner_take (o0_0 : (List T_api_Ins)) (o0_1 : (List T_api_Def)) (o0_2 : (List T_api_Chan)) (o0_3 : Int) (o0_4 : Int) (o0_5 : Int) (o0_6 : Int) (o0_8 : Int) (o0_9 : Int) (o0_10 : Int) (o0_11 : Int) (o0_12 : Int) (o0_13 : Int) (o0_14 : Int) (o0_15 : (List T_api_Alt)) (o0_17 : Int) (o0_18 : Int) (o0_19 : Int) (o0_20 : Int) (o0_21 : Int) (o0_22 : Int) (o0_23 : Int) (o0_24 : Int) (o0_27 : Int) (o0_28 : Bool) (o2 : T_stack_Stack_int_) (o1 : (List Int)) (o4 : (List Int)) (o5 : (List T_api_Alt)) (r : Int × T_stack_Stack_int_) (h : F_run_runner_take o0_0 o0_1 o0_2 o0_3 o0_4 o0_5 o0_6 o0_8 o0_9 o0_10 o0_11 o0_12 o0_13 o0_14 o0_15 o0_17 o0_18 o0_19 o0_20 o0_21 o0_22 o0_23 o0_24 o0_27 o0_28 o2 o1 o4 o5 = some r) : FnOK Tryz.prog 67 [.ptr 0 0] [.blk 81 [lv T_api_Ins.enc o0_0, lv T_api_Def.enc o0_1, lv T_api_Chan.enc o0_2, i64 o0_3, i64 o0_4, i64 o0_5, i64 o0_6, .row 1 (o1).length, i64 o0_8, i64 o0_9, i64 o0_10, i64 o0_11, i64 o0_12, i64 o0_13, i64 o0_14, lv T_api_Alt.enc o0_15, .ptr 2 0, i64 o0_17, i64 o0_18, i64 o0_19, i64 o0_20, i64 o0_21, i64 o0_22, i64 o0_23, i64 o0_24, .row 4 (o4).length, .row 5 (o5).length, i64 o0_27, bo o0_28], .row 3 1 (encL (eInt .i64) o1), .blk 123 [.row 3 (o2.l).length, i64 o2.most], .row 3 1 (encL (eInt .i64) o2.l), .row 3 1 (encL (eInt .i64) o4), .row 47 5 (encL T_api_Alt.enc o5)] (i64 r.1) [.blk 81 [lv T_api_Ins.enc o0_0, lv T_api_Def.enc o0_1, lv T_api_Chan.enc o0_2, i64 o0_3, i64 o0_4, i64 o0_5, i64 o0_6, .row 1 (o1).length, i64 o0_8, i64 o0_9, i64 o0_10, i64 o0_11, i64 o0_12, i64 o0_13, i64 o0_14, lv T_api_Alt.enc o0_15, .ptr 2 0, i64 o0_17, i64 o0_18, i64 o0_19, i64 o0_20, i64 o0_21, i64 o0_22, i64 o0_23, i64 o0_24, .row 4 (o4).length, .row 5 (o5).length, i64 o0_27, bo o0_28], .row 3 1 (encL (eInt .i64) o1), .blk 123 [.row 3 (r.2.l).length, i64 r.2.most], .row 3 1 (encL (eInt .i64) r.2.l), .row 3 1 (encL (eInt .i64) o4), .row 47 5 (encL T_api_Alt.enc o5)] [1, 2, 5, 6, 7, 8, 10] := by
  refine fI Tryz.func67 rfl fun E gv R hR => ?_
  refine At.sR [0] [0, 1, 2, 3, 4, 5, 6, 7, 8, 9, 10, 11] [] ?_
  obtain ⟨y2, hy2, h⟩ := bs h
  refine At.sR [3] [0, 1, 2, 3, 4, 5, 6, 7, 8, 9, 10, 11] [cT 4 2 [2, 3] (C_stack_Stack_int_Pop o2 y2 hy2)] ?_
  refine At.sR [2] [0, 1, 2, 3, 4, 5, 6, 7, 8, 9, 10, 11] [] ?_
  obtain rfl := sq h
  exact At.ret (At.rR hR [0, 1, 2, 3, 4, 5])
theorem C_run_runner_channel (p1 : T_api_Ins) (o0_0 : (List T_api_Ins)) (o0_1 : (List T_api_Def)) (o0_2 : (List T_api_Chan)) (o0_3 : Int) (o0_4 : Int) (o0_5 : Int) (o0_6 : Int) (o0_8 : Int) (o0_9 : Int) (o0_10 : Int) (o0_11 : Int) (o0_12 : Int) (o0_13 : Int) (o0_14 : Int) (o0_15 : (List T_api_Alt)) (o0_17 : Int) (o0_18 : Int) (o0_19 : Int) (o0_20 : Int) (o0_21 : Int) (o0_22 : Int) (o0_23 : Int) (o0_24 : Int) (o0_27 : Int) (o0_28 : Bool) (o2 : T_stack_Stack_int_) (o1 : (List Int)) (o4 : (List Int)) (o5 : (List T_api_Alt)) (r : (List T_api_Ins) × (List T_api_Def) × (List T_api_Chan) × Int × Int × Int × Int × Int × Int × Int × Int × Int × Int × Int × (List T_api_Alt) × Int × Int × Int × Int × Int × Int × Int × Int × Int × Bool × T_stack_Stack_int_ × (List Int) × (List T_api_Alt)) (h : F_run_runner_channel p1 o0_0 o0_1 o0_2 o0_3 o0_4 o0_5 o0_6 o0_8 o0_9 o0_10 o0_11 o0_12 o0_13 o0_14 o0_15 o0_17 o0_18 o0_19 o0_20 o0_21 o0_22 o0_23 o0_24 o0_27 o0_28 o2 o1 o4 o5 = some r) : FnOK Tryz.prog 68 [.ptr 0 0, .agg (T_api_Ins.pvs p1)] [.blk 81 [lv T_api_Ins.enc o0_0, lv T_api_Def.enc o0_1, lv T_api_Chan.enc o0_2, i64 o0_3, i64 o0_4, i64 o0_5, i64 o0_6, .row 1 (o1).length, i64 o0_8, i64 o0_9, i64 o0_10, i64 o0_11, i64 o0_12, i64 o0_13, i64 o0_14, lv T_api_Alt.enc o0_15, .ptr 2 0, i64 o0_17, i64 o0_18, i64 o0_19, i64 o0_20, i64 o0_21, i64 o0_22, i64 o0_23, i64 o0_24, .row 4 (o4).length, .row 5 (o5).length, i64 o0_27, bo o0_28], .row 3 1 (encL (eInt .i64) o1), .blk 123 [.row 3 (o2.l).length, i64 o2.most], .row 3 1 (encL (eInt .i64) o2.l), .row 3 1 (encL (eInt .i64) o4), .row 47 5 (encL T_api_Alt.enc o5)] (.tup []) [.blk 81 [lv T_api_Ins.enc r.1, lv T_api_Def.enc r.2.1, lv T_api_Chan.enc r.2.2.1, i64 r.2.2.2.1, i64 r.2.2.2.2.1, i64 r.2.2.2.2.2.1, i64 r.2.2.2.2.2.2.1, .row 1 (o1).length, i64 r.2.2.2.2.2.2.2.1, i64 r.2.2.2.2.2.2.2.2.1, i64 r.2.2.2.2.2.2.2.2.2.1, i64 r.2.2.2.2.2.2.2.2.2.2.1, i64 r.2.2.2.2.2.2.2.2.2.2.2.1, i64 r.2.2.2.2.2.2.2.2.2.2.2.2.1, i64 r.2.2.2.2.2.2.2.2.2.2.2.2.2.1, lv T_api_Alt.enc r.2.2.2.2.2.2.2.2.2.2.2.2.2.2.1, .ptr 2 0, i64 r.2.2.2.2.2.2.2.2.2.2.2.2.2.2.2.1, i64 r.2.2.2.2.2.2.2.2.2.2.2.2.2.2.2.2.1, i64 r.2.2.2.2.2.2.2.2.2.2.2.2.2.2.2.2.2.1, i64 r.2.2.2.2.2.2.2.2.2.2.2.2.2.2.2.2.2.2.1, i64 r.2.2.2.2.2.2.2.2.2.2.2.2.2.2.2.2.2.2.2.1, i64 r.2.2.2.2.2.2.2.2.2.2.2.2.2.2.2.2.2.2.2.2.1, i64 r.2.2.2.2.2.2.2.2.2.2.2.2.2.2.2.2.2.2.2.2.2.1, i64 r.2.2.2.2.2.2.2.2.2.2.2.2.2.2.2.2.2.2.2.2.2.2.1, .row 4 (r.2.2.2.2.2.2.2.2.2.2.2.2.2.2.2.2.2.2.2.2.2.2.2.2.2.2.1).length, .row 5 (r.2.2.2.2.2.2.2.2.2.2.2.2.2.2.2.2.2.2.2.2.2.2.2.2.2.2.2).length, i64 r.2.2.2.2.2.2.2.2.2.2.2.2.2.2.2.2.2.2.2.2.2.2.2.1, bo r.2.2.2.2.2.2.2.2.2.2.2.2.2.2.2.2.2.2.2.2.2.2.2.2.1], .row 3 1 (encL (eInt .i64) o1), .blk 123 [.row 3 (r.2.2.2.2.2.2.2.2.2.2.2.2.2.2.2.2.2.2.2.2.2.2.2.2.2.1.l).length, i64 r.2.2.2.2.2.2.2.2.2.2.2.2.2.2.2.2.2.2.2.2.2.2.2.2.2.1.most], .row 3 1 (encL (eInt .i64) r.2.2.2.2.2.2.2.2.2.2.2.2.2.2.2.2.2.2.2.2.2.2.2.2.2.1.l), .row 3 1 (encL (eInt .i64) r.2.2.2.2.2.2.2.2.2.2.2.2.2.2.2.2.2.2.2.2.2.2.2.2.2.2.1), .row 47 5 (encL T_api_Alt.enc r.2.2.2.2.2.2.2.2.2.2.2.2.2.2.2.2.2.2.2.2.2.2.2.2.2.2.2)] [1, 2, 5, 6, 7, 8, 9, 10, 11] := by
  refine fI Tryz.func68 rfl fun E gv R hR => ?_
  refine At.sR [0, 3] [0, 1, 2, 3, 4, 5, 6, 7, 8, 9, 10, 11, 12] [] ?_
  refine At.seq ?_
  refine At.sR [0, 3, 7] [0, 1, 2, 3, 4, 5, 6, 7, 8, 9, 10, 11, 12] [] ?_
  refine At.cd h (fun b4 h => ?_) (fun b4 h => ?_)
  · obtain ⟨y6, hy6, h⟩ := bs h
    refine At.sR [] [0, 1, 2, 3, 4, 5, 6, 7, 8, 9, 10, 11] [cT 4 7 [0, 1, 2, 3, 4, 5, 13] (C_run_runner_lay o0_0 o0_1 o0_2 o0_3 o0_4 o0_5 o0_6 o0_8 o0_9 o0_10 o0_11 o0_12 o0_13 o0_14 o0_15 o0_17 o0_18 o0_19 o0_20 o0_21 o0_22 o0_23 o0_24 o0_27 o0_28 o2 o1 o4 o5 ([p1.A]) y6 hy6)] ?_
    obtain rfl := sq h
    exact At.ret (At.rR hR [0, 1, 2, 3, 4, 5])
  · refine At.nR [0, 3] [0, 1, 2, 3, 4, 5, 6, 7, 8, 9, 10, 11, 12] ?_
    refine At.skip (norm ?_)
    obtain ⟨y8, hy8, h⟩ := bs h
    refine At.sR [0, 3, 4] [0, 1, 2, 3, 4, 5, 6, 7, 8, 9, 10, 11, 12] [cT 1 6 [0, 1, 2, 3, 4, 5] (C_run_runner_take o0_0 o0_1 o0_2 o0_3 o0_4 o0_5 o0_6 o0_8 o0_9 o0_10 o0_11 o0_12 o0_13 o0_14 o0_15 o0_17 o0_18 o0_19 o0_20 o0_21 o0_22 o0_23 o0_24 o0_27 o0_28 o2 o1 o4 o5 y8 hy8)] ?_
    refine At.seq ?_
    refine At.seqJ (S := Bool) (fun s => ⟨[(0, .ptr 0 0), (3, .ptr 12 0), (4, i64 y8.1), (22, bo s)], [.blk 81 [lv T_api_Ins.enc o0_0, lv T_api_Def.enc o0_1, lv T_api_Chan.enc o0_2, i64 o0_3, i64 o0_4, i64 o0_5, i64 o0_6, .row 1 (o1).length, i64 o0_8, i64 o0_9, i64 o0_10, i64 o0_11, i64 o0_12, i64 o0_13, i64 o0_14, lv T_api_Alt.enc o0_15, .ptr 2 0, i64 o0_17, i64 o0_18, i64 o0_19, i64 o0_20, i64 o0_21, i64 o0_22, i64 o0_23, i64 o0_24, .row 4 (o4).length, .row 5 (o5).length, i64 o0_27, bo o0_28], .row 3 1 (encL (eInt .i64) o1), .blk 123 [.row 3 (y8.2.l).length, i64 y8.2.most], .row 3 1 (encL (eInt .i64) y8.2.l), .row 3 1 (encL (eInt .i64) o4), .row 47 5 (encL T_api_Alt.enc o5), .ghost (gv 0) (.ptr 0 0), .ghost (gv 1) (.row 1 0), .ghost (gv 2) (.ptr 2 0), .ghost (gv 3) (.undef), .ghost (gv 4) (.row 4 0), .ghost (gv 5) (.row 5 0), .blk 50 (T_api_Ins.pvs p1)]⟩) (fun s => F_run_runner_channel_J1 p1 o0_0 o0_1 o0_2 o0_3 o0_4 o0_5 o0_6 o0_8 o0_9 o0_10 o0_11 o0_12 o0_13 o0_14 o0_15 o0_17 o0_18 o0_19 o0_20 o0_21 o0_22 o0_23 o0_24 o0_27 o0_28 o1 o4 o5 y8 s = some r) ?_ ?_
    · rcases cs h with ⟨b21, h⟩ | ⟨b21, h⟩
      · exact At.rK [0, 3, 4, 22] [0, 1, 2, 3, 4, 5, 6, 7, 8, 9, 10, 11, 12] [bT 2 b21] fun _ _ i => ⟨true, h, i⟩
      · exact At.rK [0, 3, 4, 22] [0, 1, 2, 3, 4, 5, 6, 7, 8, 9, 10, 11, 12] [bT 2 b21] fun _ _ i => ⟨(decide (p1.B ≤ y8.1)), h, i⟩
    · intro x16 h
      refine At.cd h (fun b17 h => ?_) (fun b17 h => ?_)
      · obtain ⟨y19, hy19, h⟩ := bs h
        refine At.sR [] [0, 1, 2, 3, 4, 5, 6, 7, 8, 9, 10, 11] [cT 1 6 [0, 1, 2, 3, 4, 5] (C_run_runner_fault 4 o0_0 o0_1 o0_2 o0_3 o0_4 o0_5 o0_6 o0_8 o0_9 o0_10 o0_11 o0_12 o0_13 o0_14 o0_15 o0_17 o0_18 o0_19 o0_20 o0_21 o0_22 o0_23 o0_24 o0_27 o0_28 y8.2 o1 o4 o5 y19 hy19)] ?_
        obtain rfl := sq h
        exact At.ret (At.rR hR [0, 1, 2, 3, 4, 5])
      · refine At.nR [0, 3, 4] [0, 1, 2, 3, 4, 5, 6, 7, 8, 9, 10, 11, 12] ?_
        refine At.skip (norm ?_)
        obtain ⟨y20, hy20, h⟩ := bs h
        obtain rfl := sq h
        refine At.rG [] [0, 1, 2, 3, 4, 5, 6, 7, 8, 9, 10, 11] [cT 6 7 [0, 1, 2, 3, 4, 5, 13] (C_run_runner_lay o0_0 o0_1 o0_2 o0_3 o0_4 o0_5 o0_6 o0_8 o0_9 o0_10 o0_11 o0_12 o0_13 o0_14 o0_15 o0_17 o0_18 o0_19 o0_20 o0_21 o0_22 o0_23 o0_24 o0_27 o0_28 y8.2 o1 o4 o5 ([(w64 (p1.A + y8.1))]) y20 hy20)] (edq (l := []) (ks := []) (ρ := [0, 1, 2, 3, 4, 5, 6, 7, 8, 9, 10, 11]) (st' := ⟨[], [.blk 81 [lv T_api_Ins.enc y20.1, lv T_api_Def.enc y20.2.1, lv T_api_Chan.enc y20.2.2.1, i64 y20.2.2.2.1, i64 y20.2.2.2.2.1, i64 y20.2.2.2.2.2.1, i64 y20.2.2.2.2.2.2.1, .row 1 (o1).length, i64 y20.2.2.2.2.2.2.2.1, i64 y20.2.2.2.2.2.2.2.2.1, i64 y20.2.2.2.2.2.2.2.2.2.1, i64 y20.2.2.2.2.2.2.2.2.2.2.1, i64 y20.2.2.2.2.2.2.2.2.2.2.2.1, i64 y20.2.2.2.2.2.2.2.2.2.2.2.2.1, i64 y20.2.2.2.2.2.2.2.2.2.2.2.2.2.1, lv T_api_Alt.enc y20.2.2.2.2.2.2.2.2.2.2.2.2.2.2.1, .ptr 2 0, i64 y20.2.2.2.2.2.2.2.2.2.2.2.2.2.2.2.1, i64 y20.2.2.2.2.2.2.2.2.2.2.2.2.2.2.2.2.1, i64 y20.2.2.2.2.2.2.2.2.2.2.2.2.2.2.2.2.2.1, i64 y20.2.2.2.2.2.2.2.2.2.2.2.2.2.2.2.2.2.2.1, i64 y20.2.2.2.2.2.2.2.2.2.2.2.2.2.2.2.2.2.2.2.1, i64 y20.2.2.2.2.2.2.2.2.2.2.2.2.2.2.2.2.2.2.2.2.1, i64 y20.2.2.2.2.2.2.2.2.2.2.2.2.2.2.2.2.2.2.2.2.2.1, i64 y20.2.2.2.2.2.2.2.2.2.2.2.2.2.2.2.2.2.2.2.2.2.2.1, .row 4 (y20.2.2.2.2.2.2.2.2.2.2.2.2.2.2.2.2.2.2.2.2.2.2.2.2.2.2.1).length, .row 5 (y20.2.2.2.2.2.2.2.2.2.2.2.2.2.2.2.2.2.2.2.2.2.2.2.2.2.2.2).length, i64 y20.2.2.2.2.2.2.2.2.2.2.2.2.2.2.2.2.2.2.2.2.2.2.2.1, bo y20.2.2.2.2.2.2.2.2.2.2.2.2.2.2.2.2.2.2.2.2.2.2.2.2.1], .row 3 1 (encL (eInt .i64) o1), .blk 123 [.row 3 (y20.2.2.2.2.2.2.2.2.2.2.2.2.2.2.2.2.2.2.2.2.2.2.2.2.2.1.l).length, i64 y20.2.2.2.2.2.2.2.2.2.2.2.2.2.2.2.2.2.2.2.2.2.2.2.2.2.1.most], .row 3 1 (encL (eInt .i64) y20.2.2.2.2.2.2.2.2.2.2.2.2.2.2.2.2.2.2.2.2.2.2.2.2.2.1.l), .row 3 1 (encL (eInt .i64) y20.2.2.2.2.2.2.2.2.2.2.2.2.2.2.2.2.2.2.2.2.2.2.2.2.2.2.1), .row 47 5 (encL T_api_Alt.enc y20.2.2.2.2.2.2.2.2.2.2.2.2.2.2.2.2.2.2.2.2.2.2.2.2.2.2.2), .ghost (gv 0) (.ptr 0 0), .ghost (gv 1) (.row 1 0), .ghost (gv 2) (.ptr 2 0), .ghost (gv 3) (.undef), .ghost (gv 4) (.undef), .ghost (gv 5) (.undef)]⟩) (by kernel_rfl) (At.rN hR [0, 1, 2, 3, 4, 5]))
theorem C_proc_Chans (p0 : T_api_Code) (r : Int) (h : F_proc_Chans p0 = some r) : FnOK Tryz.prog 110 [.agg (T_api_Code.pvs p0)] [] (i64 r) [] [] := by
  refine fI Tryz.func110 rfl fun E gv R hR => ?_
  refine At.sR [1] [0] [] ?_
  refine At.sR [1, 3] [0] [] ?_
  refine At.seq ?_
  refine At.sR [3, 7, 8, 9] [] [] ?_
  refine At.block ?_
  refine At.nK (st' := ⟨[(3, i64 0), (7, lv T_api_Chan.enc p0.Chans), (8, i64 ((p0.Chans).length : Int)), (9, i64 0)], []⟩) [3, 7, 8, 9] [] ?_
  refine At.lp (fun s : (Int × Int) => ⟨[(3, i64 s.1), (7, lv T_api_Chan.enc p0.Chans), (8, i64 ((p0.Chans).length : Int)), (9, i64 s.2)], []⟩) h ?_
  rintro ⟨x13, x14⟩ oo15 h f16
  replace h : F_proc_Chans_L1 p0 x13 x14 = some oo15 := h
  refine At.sR [3, 7, 8, 9, 10] [] [] ?_
  refine At.seq ?_
  refine At.cd h (fun b18 h => ?_) (fun b18 h => ?_)
  · refine At.nR [3, 7, 8, 9] [] ?_
    refine At.skip (norm ?_)
    refine At.seq ?_
    refine At.block ?_
    obtain ⟨y22, hy22, h⟩ := bs h
    refine At.sR [3, 5, 7, 8, 9] [0] [eT T_api_Chan.enc_len 0 hy22] ?_
    refine At.rG [3, 7, 8, 9] [] [] (norm ?_)
    exact At.rK [3, 7, 8, 9] [] [] fun _ _ i => ⟨_, li h, i⟩
  · refine At.nR [3] [] ?_
    obtain ⟨r23, h, e24⟩ := mr h
    rw [f16 _ e24] at h
    refine At.exit (norm ?_)
    refine At.sR [2] [] [] ?_
    obtain rfl := sq h
    exact At.ret (At.rR hR [])
theorem C_run_runner_none (p1 : Int) (o0_0 : (List T_api_Ins)) (o0_1 : (List T_api_Def)) (o0_2 : (List T_api_Chan)) (o0_3 : Int) (o0_4 : Int) (o0_5 : Int) (o0_6 : Int) (o0_8 : Int) (o0_9 : Int) (o0_10 : Int) (o0_11 : Int) (o0_12 : Int) (o0_13 : Int) (o0_14 : Int) (o0_15 : (List T_api_Alt)) (o0_17 : Int) (o0_18 : Int) (o0_19 : Int) (o0_20 : Int) (o0_21 : Int) (o0_22 : Int) (o0_23 : Int) (o0_24 : Int) (o0_27 : Int) (o0_28 : Bool) (o2 : T_stack_Stack_int_) (o1 : (List Int)) (o4 : (List Int)) (o5 : (List T_api_Alt)) (r : Bool × (List T_api_Ins) × (List T_api_Def) × (List T_api_Chan) × Int × Int × Int × Int × Int × Int × Int × Int × Int × Int × Int × (List T_api_Alt) × Int × Int × Int × Int × Int × Int × Int × Int × Int × Bool × (List Int) × (List T_api_Alt)) (h : F_run_runner_none p1 o0_0 o0_1 o0_2 o0_3 o0_4 o0_5 o0_6 o0_8 o0_9 o0_10 o0_11 o0_12 o0_13 o0_14 o0_15 o0_17 o0_18 o0_19 o0_20 o0_21 o0_22 o0_23 o0_24 o0_27 o0_28 o2 o1 o4 o5 = some r) : FnOK Tryz.prog 72 [.ptr 0 0, i64 p1] [.blk 81 [lv T_api_Ins.enc o0_0, lv T_api_Def.enc o0_1, lv T_api_Chan.enc o0_2, i64 o0_3, i64 o0_4, i64 o0_5, i64 o0_6, .row 1 (o1).length, i64 o0_8, i64 o0_9, i64 o0_10, i64 o0_11, i64 o0_12, i64 o0_13, i64 o0_14, lv T_api_Alt.enc o0_15, .ptr 2 0, i64 o0_17, i64 o0_18, i64 o0_19, i64 o0_20, i64 o0_21, i64 o0_22, i64 o0_23, i64 o0_24, .row 4 (o4).length, .row 5 (o5).length, i64 o0_27, bo o0_28], .row 3 1 (encL (eInt .i64) o1), .blk 123 [.row 3 (o2.l).length, i64 o2.most], .row 3 1 (encL (eInt .i64) o2.l), .row 3 1 (encL (eInt .i64) o4), .row 47 5 (encL T_api_Alt.enc o5)] (bo r.1) [.blk 81 [lv T_api_Ins.enc r.2.1, lv T_api_Def.enc r.2.2.1, lv T_api_Chan.enc r.2.2.2.1, i64 r.2.2.2.2.1, i64 r.2.2.2.2.2.1, i64 r.2.2.2.2.2.2.1, i64 r.2.2.2.2.2.2.2.1, .row 1 (o1).length, i64 r.2.2.2.2.2.2.2.2.1, i64 r.2.2.2.2.2.2.2.2.2.1, i64 r.2.2.2.2.2.2.2.2.2.2.1, i64 r.2.2.2.2.2.2.2.2.2.2.2.1, i64 r.2.2.2.2.2.2.2.2.2.2.2.2.1, i64 r.2.2.2.2.2.2.2.2.2.2.2.2.2.1, i64 r.2.2.2.2.2.2.2.2.2.2.2.2.2.2.1, lv T_api_Alt.enc r.2.2.2.2.2.2.2.2.2.2.2.2.2.2.2.1, .ptr 2 0, i64 r.2.2.2.2.2.2.2.2.2.2.2.2.2.2.2.2.1, i64 r.2.2.2.2.2.2.2.2.2.2.2.2.2.2.2.2.2.1, i64 r.2.2.2.2.2.2.2.2.2.2.2.2.2.2.2.2.2.2.1, i64 r.2.2.2.2.2.2.2.2.2.2.2.2.2.2.2.2.2.2.2.1, i64 r.2.2.2.2.2.2.2.2.2.2.2.2.2.2.2.2.2.2.2.2.1, i64 r.2.2.2.2.2.2.2.2.2.2.2.2.2.2.2.2.2.2.2.2.2.1, i64 r.2.2.2.2.2.2.2.2.2.2.2.2.2.2.2.2.2.2.2.2.2.2.1, i64 r.2.2.2.2.2.2.2.2.2.2.2.2.2.2.2.2.2.2.2.2.2.2.2.1, .row 4 (r.2.2.2.2.2.2.2.2.2.2.2.2.2.2.2.2.2.2.2.2.2.2.2.2.2.2.1).length, .row 5 (r.2.2.2.2.2.2.2.2.2.2.2.2.2.2.2.2.2.2.2.2.2.2.2.2.2.2.2).length, i64 r.2.2.2.2.2.2.2.2.2.2.2.2.2.2.2.2.2.2.2.2.2.2.2.2.1, bo r.2.2.2.2.2.2.2.2.2.2.2.2.2.2.2.2.2.2.2.2.2.2.2.2.2.1], .row 3 1 (encL (eInt .i64) o1), .blk 123 [.row 3 (o2.l).length, i64 o2.most], .row 3 1 (encL (eInt .i64) o2.l), .row 3 1 (encL (eInt .i64) r.2.2.2.2.2.2.2.2.2.2.2.2.2.2.2.2.2.2.2.2.2.2.2.2.2.2.1), .row 47 5 (encL T_api_Alt.enc r.2.2.2.2.2.2.2.2.2.2.2.2.2.2.2.2.2.2.2.2.2.2.2.2.2.2.2)] [1, 2, 5, 6, 8, 9, 10, 11] := by
  refine fI Tryz.func72 rfl fun E gv R hR => ?_
  refine At.sR [0, 1] [0, 1, 2, 3, 4, 5, 6, 7, 8, 9, 10, 11] [] ?_
  refine At.seq ?_
  refine At.seqJ (S := Bool) (fun s => ⟨[(0, .ptr 0 0), (15, bo s)], [.blk 81 [lv T_api_Ins.enc o0_0, lv T_api_Def.enc o0_1, lv T_api_Chan.enc o0_2, i64 o0_3, i64 o0_4, i64 o0_5, i64 o0_6, .row 1 (o1).length, i64 o0_8, i64 o0_9, i64 o0_10, i64 o0_11, i64 o0_12, i64 o0_13, i64 o0_14, lv T_api_Alt.enc o0_15, .ptr 2 0, i64 o0_17, i64 o0_18, i64 o0_19, i64 o0_20, i64 o0_21, i64 o0_22, i64 o0_23, i64 o0_24, .row 4 (o4).length, .row 5 (o5).length, i64 o0_27, bo o0_28], .row 3 1 (encL (eInt .i64) o1), .blk 123 [.row 3 (o2.l).length, i64 o2.most], .row 3 1 (encL (eInt .i64) o2.l), .row 3 1 (encL (eInt .i64) o4), .row 47 5 (encL T_api_Alt.enc o5), .ghost (gv 0) (.ptr 0 0), .ghost (gv 1) (.row 1 0), .ghost (gv 2) (.ptr 2 0), .ghost (gv 3) (.row 3 0), .ghost (gv 4) (.row 4 0), .ghost (gv 5) (.row 5 0)]⟩) (fun s => F_run_runner_none_J1 o0_0 o0_1 o0_2 o0_3 o0_4 o0_5 o0_6 o0_8 o0_9 o0_10 o0_11 o0_12 o0_13 o0_14 o0_15 o0_17 o0_18 o0_19 o0_20 o0_21 o0_22 o0_23 o0_24 o0_27 o0_28 o2 o1 o4 o5 s = some r) ?_ ?_
  · rcases cs h with ⟨b13, h⟩ | ⟨b13, h⟩
    · obtain ⟨y14, hy14, h⟩ := bs h
      exact At.rK [0, 15] [0, 1, 2, 3, 4, 5, 6, 7, 8, 9, 10, 11] [bT 2 b13, c0 8 (C_proc_Chans (⟨o0_0, o0_1, o0_2, o0_3, o0_4⟩ : T_api_Code) y14 hy14)] fun _ _ i => ⟨(decide (p1 < y14)), h, i⟩
    · exact At.rK [0, 15] [0, 1, 2, 3, 4, 5, 6, 7, 8, 9, 10, 11] [bT 2 b13] fun _ _ i => ⟨false, h, i⟩
  · intro x9 h
    refine At.cd h (fun b10 h => ?_) (fun b10 h => ?_)
    · refine At.sR [4] [0, 1, 2, 3, 4, 5, 6, 7, 8, 9, 10, 11] [] ?_
      refine At.eN [.hideG 10, .hideG 11] [4] [0, 1, 2, 3, 4, 5, 6, 7, 8, 9, 10, 11] ?_
      obtain rfl := sq h
      exact At.ret (At.rR hR [0, 1, 2, 3, 4, 5])
    · refine At.nR [0] [0, 1, 2, 3, 4, 5, 6, 7, 8, 9, 10, 11] ?_
      refine At.skip (norm ?_)
      obtain ⟨y12, hy12, h⟩ := bs h
      refine At.sR [] [0, 1, 2, 3, 4, 5, 6, 7, 8, 9, 10, 11] [cT 1 6 [0, 1, 2, 3, 4, 5] (C_run_runner_fault 4 o0_0 o0_1 o0_2 o0_3 o0_4 o0_5 o0_6 o0_8 o0_9 o0_10 o0_11 o0_12 o0_13 o0_14 o0_15 o0_17 o0_18 o0_19 o0_20 o0_21 o0_22 o0_23 o0_24 o0_27 o0_28 o2 o1 o4 o5 y12 hy12)] ?_
      refine At.sR [4] [0, 1, 2, 3, 4, 5, 6, 7, 8, 9, 10, 11] [] ?_
      obtain rfl := sq h
      exact At.ret (At.rR hR [0, 1, 2, 3, 4, 5])
theorem C_code_Settle (p0 : T_api_Code) (p1 : Int) (r : Int) (h : F_code_Settle p0 p1 = some r) : FnOK Tryz.prog 70 [.agg (T_api_Code.pvs p0), i64 p1] [] (i64 r) [] [] := by
  refine fI Tryz.func70 rfl fun E gv R hR => ?_
  refine At.sR [1, 2] [0] [] ?_
  refine At.sR [1, 2, 5] [0] [] ?_
  refine At.seq ?_
  refine At.sR [1, 2, 5, 10, 11] [0] [] ?_
  refine At.block ?_
  refine At.nK (st' := ⟨[(1, i64 p1), (2, .ptr 0 0), (5, i64 p1), (10, i64 (w64 (((p0.Ins).length : Int) + 1))), (11, i64 0)], [.blk 27 (T_api_Code.pvs p0)]⟩) [1, 2, 5, 10, 11] [0] ?_
  refine At.lp (fun s : (Int × Int) => ⟨[(1, i64 p1), (2, .ptr 0 0), (5, i64 s.1), (10, i64 (w64 (((p0.Ins).length : Int) + 1))), (11, i64 s.2)], [.blk 27 (T_api_Code.pvs p0)]⟩) h ?_
  rintro ⟨x45, x46⟩ oo47 h f48
  replace h : F_code_Settle_L2 p0 p1 x45 x46 = some oo47 := h
  refine At.sR [1, 2, 5, 10, 11, 12] [0] [] ?_
  refine At.seq ?_
  refine At.cd h (fun b50 h => ?_) (fun b50 h => ?_)
  · refine At.nR [1, 2, 5, 10, 11] [0] ?_
    refine At.skip (norm ?_)
    refine At.seq ?_
    refine At.block ?_
    refine At.seq ?_
    refine At.seqJ (S := Bool) (fun s => ⟨[(1, i64 p1), (2, .ptr 0 0), (5, i64 x45), (10, i64 (w64 (((p0.Ins).length : Int) + 1))), (11, i64 x46), (30, bo s)], [.blk 27 (T_api_Code.pvs p0)]⟩) (fun s => F_code_Settle_J1 p0 x45 x46 s = some oo47) ?_ ?_
    · rcases cs h with ⟨b84, h⟩ | ⟨b84, h⟩
      · exact At.rK [1, 2, 5, 10, 11, 30] [0] [bT 2 b84] fun _ _ i => ⟨true, h, i⟩
      · rcases cs h with ⟨b85, h⟩ | ⟨b85, h⟩
        · exact At.rK [1, 2, 5, 10, 11, 30] [0] [bT 2 b84, bT 9 b85] fun _ _ i => ⟨true, h, i⟩
        · obtain ⟨y86, hy86, h⟩ := bs h
          exact At.rK [1, 2, 5, 10, 11, 30] [0] [bT 2 b84, bT 9 b85, eT T_api_Ins.enc_len 13 hy86] fun _ _ i => ⟨(y86.Op != 6), h, i⟩
    · intro x79 h
      refine At.cd h (fun b80 h => ?_) (fun b80 h => ?_)
      · refine At.sR [4] [] [] ?_
        obtain ⟨r81, h, e82⟩ := mr h
        rw [f48 _ e82] at h
        obtain rfl := sq h
        exact At.ret (At.rR hR [])
      · refine At.nR [1, 2, 5, 10, 11] [0] ?_
        refine At.skip (norm ?_)
        obtain ⟨y83, hy83, h⟩ := bs h
        refine At.rG [1, 2, 5, 10, 11] [0] [eT T_api_Ins.enc_len 3 hy83] (norm ?_)
        exact At.rK [1, 2, 5, 10, 11] [0] [] fun _ _ i => ⟨_, li h, i⟩
  · refine At.nR [1] [] ?_
    obtain ⟨r87, h, e88⟩ := mr h
    rw [f48 _ e88] at h
    refine At.exit (norm ?_)
    refine At.sR [4] [] [] ?_
    obtain rfl := sq h
    exact At.ret (At.rR hR [])
theorem C_run_runner_alt (p1 : T_api_Alt) (p2 : Int) (o0_0 : (List T_api_Ins)) (o0_1 : (List T_api_Def)) (o0_2 : (List T_api_Chan)) (o0_3 : Int) (o0_4 : Int) (o0_5 : Int) (o0_6 : Int) (o0_8 : Int) (o0_9 : Int) (o0_10 : Int) (o0_11 : Int) (o0_12 : Int) (o0_13 : Int) (o0_14 : Int) (o0_15 : (List T_api_Alt)) (o0_17 : Int) (o0_18 : Int) (o0_19 : Int) (o0_20 : Int) (o0_21 : Int) (o0_22 : Int) (o0_23 : Int) (o0_24 : Int) (o0_27 : Int) (o0_28 : Bool) (o2 : T_stack_Stack_int_) (o1 : (List Int)) (o4 : (List Int)) (o5 : (List T_api_Alt)) (r : (List T_api_Ins) × (List T_api_Def) × (List T_api_Chan) × Int × Int × Int × Int × Int × Int × Int × Int × Int × Int × Int × (List T_api_Alt) × Int × Int × Int × Int × Int × Int × Int × Int × Int × Bool × (List Int) × (List T_api_Alt)) (h : F_run_runner_alt p1 p2 o0_0 o0_1 o0_2 o0_3 o0_4 o0_5 o0_6 o0_8 o0_9 o0_10 o0_11 o0_12 o0_13 o0_14 o0_15 o0_17 o0_18 o0_19 o0_20 o0_21 o0_22 o0_23 o0_24 o0_27 o0_28 o2 o1 o4 o5 = some r) : FnOK Tryz.prog 69 [.ptr 0 0, .agg (T_api_Alt.pvs p1), i64 p2] [.blk 81 [lv T_api_Ins.enc o0_0, lv T_api_Def.enc o0_1, lv T_api_Chan.enc o0_2, i64 o0_3, i64 o0_4, i64 o0_5, i64 o0_6, .row 1 (o1).length, i64 o0_8, i64 o0_9, i64 o0_10, i64 o0_11, i64 o0_12, i64 o0_13, i64 o0_14, lv T_api_Alt.enc o0_15, .ptr 2 0, i64 o0_17, i64 o0_18, i64 o0_19, i64 o0_20, i64 o0_21, i64 o0_22, i64 o0_23, i64 o0_24, .row 4 (o4).length, .row 5 (o5).length, i64 o0_27, bo o0_28], .row 3 1 (encL (eInt .i64) o1), .blk 123 [.row 3 (o2.l).length, i64 o2.most], .row 3 1 (encL (eInt .i64) o2.l), .row 3 1 (encL (eInt .i64) o4), .row 47 5 (encL T_api_Alt.enc o5)] (.tup []) [.blk 81 [lv T_api_Ins.enc r.1, lv T_api_Def.enc r.2.1, lv T_api_Chan.enc r.2.2.1, i64 r.2.2.2.1, i64 r.2.2.2.2.1, i64 r.2.2.2.2.2.1, i64 r.2.2.2.2.2.2.1, .row 1 (o1).length, i64 r.2.2.2.2.2.2.2.1, i64 r.2.2.2.2.2.2.2.2.1, i64 r.2.2.2.2.2.2.2.2.2.1, i64 r.2.2.2.2.2.2.2.2.2.2.1, i64 r.2.2.2.2.2.2.2.2.2.2.2.1, i64 r.2.2.2.2.2.2.2.2.2.2.2.2.1, i64 r.2.2.2.2.2.2.2.2.2.2.2.2.2.1, lv T_api_Alt.enc r.2.2.2.2.2.2.2.2.2.2.2.2.2.2.1, .ptr 2 0, i64 r.2.2.2.2.2.2.2.2.2.2.2.2.2.2.2.1, i64 r.2.2.2.2.2.2.2.2.2.2.2.2.2.2.2.2.1, i64 r.2.2.2.2.2.2.2.2.2.2.2.2.2.2.2.2.2.1, i64 r.2.2.2.2.2.2.2.2.2.2.2.2.2.2.2.2.2.2.1, i64 r.2.2.2.2.2.2.2.2.2.2.2.2.2.2.2.2.2.2.2.1, i64 r.2.2.2.2.2.2.2.2.2.2.2.2.2.2.2.2.2.2.2.2.1, i64 r.2.2.2.2.2.2.2.2.2.2.2.2.2.2.2.2.2.2.2.2.2.1, i64 r.2.2.2.2.2.2.2.2.2.2.2.2.2.2.2.2.2.2.2.2.2.2.1, .row 4 (r.2.2.2.2.2.2.2.2.2.2.2.2.2.2.2.2.2.2.2.2.2.2.2.2.2.1).length, .row 5 (r.2.2.2.2.2.2.2.2.2.2.2.2.2.2.2.2.2.2.2.2.2.2.2.2.2.2).length, i64 r.2.2.2.2.2.2.2.2.2.2.2.2.2.2.2.2.2.2.2.2.2.2.2.1, bo r.2.2.2.2.2.2.2.2.2.2.2.2.2.2.2.2.2.2.2.2.2.2.2.2.1], .row 3 1 (encL (eInt .i64) o1), .blk 123 [.row 3 (o2.l).length, i64 o2.most], .row 3 1 (encL (eInt .i64) o2.l), .row 3 1 (encL (eInt .i64) r.2.2.2.2.2.2.2.2.2.2.2.2.2.2.2.2.2.2.2.2.2.2.2.2.2.1), .row 47 5 (encL T_api_Alt.enc r.2.2.2.2.2.2.2.2.2.2.2.2.2.2.2.2.2.2.2.2.2.2.2.2.2.2)] [1, 2, 5, 6, 8, 9, 10, 11] := by
  refine fI Tryz.func69 rfl fun E gv R hR => ?_
  refine At.sR [0, 2, 4] [0, 1, 2, 3, 4, 5, 6, 7, 8, 9, 10, 11, 12] [] ?_
  refine At.seq ?_
  refine At.seqJ (S := Bool × (List T_api_Ins) × (List T_api_Def) × (List T_api_Chan) × Int × Int × Int × Int × Int × Int × Int × Int × Int × Int × Int × (List T_api_Alt) × Int × Int × Int × Int × Int × Int × Int × Int × Int × Bool × (List Int) × (List T_api_Alt)) (fun s => ⟨[(0, .ptr 0 0), (2, i64 p2), (4, .ptr 12 0), (19, bo s.1)], [.blk 81 [lv T_api_Ins.enc s.2.1, lv T_api_Def.enc s.2.2.1, lv T_api_Chan.enc s.2.2.2.1, i64 s.2.2.2.2.1, i64 s.2.2.2.2.2.1, i64 s.2.2.2.2.2.2.1, i64 s.2.2.2.2.2.2.2.1, .row 1 (o1).length, i64 s.2.2.2.2.2.2.2.2.1, i64 s.2.2.2.2.2.2.2.2.2.1, i64 s.2.2.2.2.2.2.2.2.2.2.1, i64 s.2.2.2.2.2.2.2.2.2.2.2.1, i64 s.2.2.2.2.2.2.2.2.2.2.2.2.1, i64 s.2.2.2.2.2.2.2.2.2.2.2.2.2.1, i64 s.2.2.2.2.2.2.2.2.2.2.2.2.2.2.1, lv T_api_Alt.enc s.2.2.2.2.2.2.2.2.2.2.2.2.2.2.2.1, .ptr 2 0, i64 s.2.2.2.2.2.2.2.2.2.2.2.2.2.2.2.2.1, i64 s.2.2.2.2.2.2.2.2.2.2.2.2.2.2.2.2.2.1, i64 s.2.2.2.2.2.2.2.2.2.2.2.2.2.2.2.2.2.2.1, i64 s.2.2.2.2.2.2.2.2.2.2.2.2.2.2.2.2.2.2.2.1, i64 s.2.2.2.2.2.2.2.2.2.2.2.2.2.2.2.2.2.2.2.2.1, i64 s.2.2.2.2.2.2.2.2.2.2.2.2.2.2.2.2.2.2.2.2.2.1, i64 s.2.2.2.2.2.2.2.2.2.2.2.2.2.2.2.2.2.2.2.2.2.2.1, i64 s.2.2.2.2.2.2.2.2.2.2.2.2.2.2.2.2.2.2.2.2.2.2.2.1, .row 4 (s.2.2.2.2.2.2.2.2.2.2.2.2.2.2.2.2.2.2.2.2.2.2.2.2.2.2.1).length, .row 5 (s.2.2.2.2.2.2.2.2.2.2.2.2.2.2.2.2.2.2.2.2.2.2.2.2.2.2.2).length, i64 s.2.2.2.2.2.2.2.2.2.2.2.2.2.2.2.2.2.2.2.2.2.2.2.2.1, bo s.2.2.2.2.2.2.2.2.2.2.2.2.2.2.2.2.2.2.2.2.2.2.2.2.2.1], .row 3 1 (encL (eInt .i64) o1), .blk 123 [.row 3 (o2.l).length, i64 o2.most], .row 3 1 (encL (eInt .i64) o2.l), .row 3 1 (encL (eInt .i64) s.2.2.2.2.2.2.2.2.2.2.2.2.2.2.2.2.2.2.2.2.2.2.2.2.2.2.1), .row 47 5 (encL T_api_Alt.enc s.2.2.2.2.2.2.2.2.2.2.2.2.2.2.2.2.2.2.2.2.2.2.2.2.2.2.2), .ghost (gv 0) (.ptr 0 0), .ghost (gv 1) (.row 1 0), .ghost (gv 2) (.ptr 2 0), .ghost (gv 3) (.row 3 0), .ghost (gv 4) (.undef), .ghost (gv 5) (.undef), .blk 47 (T_api_Alt.pvs p1)]⟩) (fun s => F_run_runner_alt_J1 p1 p2 s.1 s.2.1 s.2.2.1 s.2.2.2.1 s.2.2.2.2.1 s.2.2.2.2.2.1 s.2.2.2.2.2.2.1 s.2.2.2.2.2.2.2.1 s.2.2.2.2.2.2.2.2.1 s.2.2.2.2.2.2.2.2.2.1 s.2.2.2.2.2.2.2.2.2.2.1 s.2.2.2.2.2.2.2.2.2.2.2.1 s.2.2.2.2.2.2.2.2.2.2.2.2.1 s.2.2.2.2.2.2.2.2.2.2.2.2.2.1 s.2.2.2.2.2.2.2.2.2.2.2.2.2.2.1 s.2.2.2.2.2.2.2.2.2.2.2.2.2.2.2.1 s.2.2.2.2.2.2.2.2.2.2.2.2.2.2.2.2.1 s.2.2.2.2.2.2.2.2.2.2.2.2.2.2.2.2.2.1 s.2.2.2.2.2.2.2.2.2.2.2.2.2.2.2.2.2.2.1 s.2.2.2.2.2.2.2.2.2.2.2.2.2.2.2.2.2.2.2.1 s.2.2.2.2.2.2.2.2.2.2.2.2.2.2.2.2.2.2.2.2.1 s.2.2.2.2.2.2.2.2.2.2.2.2.2.2.2.2.2.2.2.2.2.1 s.2.2.2.2.2.2.2.2.2.2.2.2.2.2.2.2.2.2.2.2.2.2.1 s.2.2.2.2.2.2.2.2.2.2.2.2.2.2.2.2.2.2.2.2.2.2.2.1 s.2.2.2.2.2.2.2.2.2.2.2.2.2.2.2.2.2.2.2.2.2.2.2.2.1 s.2.2.2.2.2.2.2.2.2.2.2.2.2.2.2.2.2.2.2.2.2.2.2.2.2.1 s.2.2.2.2.2.2.2.2.2.2.2.2.2.2.2.2.2.2.2.2.2.2.2.2.2.2.1 s.2.2.2.2.2.2.2.2.2.2.2.2.2.2.2.2.2.2.2.2.2.2.2.2.2.2.2 = some r) ?_ ?_
  · rcases cs h with ⟨b74, h⟩ | ⟨b74, h⟩
    · obtain ⟨y75, hy75, h⟩ := bs h
      exact At.rK [0, 2, 4, 19] [0, 1, 2, 3, 4, 5, 6, 7, 8, 9, 10, 11, 12] [bT 3 b74, cT 12 6 [0, 1, 2, 3, 4, 5] (C_run_runner_none p1.Chan o0_0 o0_1 o0_2 o0_3 o0_4 o0_5 o0_6 o0_8 o0_9 o0_10 o0_11 o0_12 o0_13 o0_14 o0_15 o0_17 o0_18 o0_19 o0_20 o0_21 o0_22 o0_23 o0_24 o0_27 o0_28 o2 o1 o4 o5 y75 hy75)] fun _ _ i => ⟨(y75.1, y75.2.1, y75.2.2.1, y75.2.2.2.1, y75.2.2.2.2.1, y75.2.2.2.2.2.1, y75.2.2.2.2.2.2.1, y75.2.2.2.2.2.2.2.1, y75.2.2.2.2.2.2.2.2.1, y75.2.2.2.2.2.2.2.2.2.1, y75.2.2.2.2.2.2.2.2.2.2.1, y75.2.2.2.2.2.2.2.2.2.2.2.1, y75.2.2.2.2.2.2.2.2.2.2.2.2.1, y75.2.2.2.2.2.2.2.2.2.2.2.2.2.1, y75.2.2.2.2.2.2.2.2.2.2.2.2.2.2.1, y75.2.2.2.2.2.2.2.2.2.2.2.2.2.2.2.1, y75.2.2.2.2.2.2.2.2.2.2.2.2.2.2.2.2.1, y75.2.2.2.2.2.2.2.2.2.2.2.2.2.2.2.2.2.1, y75.2.2.2.2.2.2.2.2.2.2.2.2.2.2.2.2.2.2.1, y75.2.2.2.2.2.2.2.2.2.2.2.2.2.2.2.2.2.2.2.1, y75.2.2.2.2.2.2.2.2.2.2.2.2.2.2.2.2.2.2.2.2.1, y75.2.2.2.2.2.2.2.2.2.2.2.2.2.2.2.2.2.2.2.2.2.1, y75.2.2.2.2.2.2.2.2.2.2.2.2.2.2.2.2.2.2.2.2.2.2.1, y75.2.2.2.2.2.2.2.2.2.2.2.2.2.2.2.2.2.2.2.2.2.2.2.1, y75.2.2.2.2.2.2.2.2.2.2.2.2.2.2.2.2.2.2.2.2.2.2.2.2.1, y75.2.2.2.2.2.2.2.2.2.2.2.2.2.2.2.2.2.2.2.2.2.2.2.2.2.1, y75.2.2.2.2.2.2.2.2.2.2.2.2.2.2.2.2.2.2.2.2.2.2.2.2.2.2.1, y75.2.2.2.2.2.2.2.2.2.2.2.2.2.2.2.2.2.2.2.2.2.2.2.2.2.2.2), h, i⟩
    · rcases cs h with ⟨b76, h⟩ | ⟨b76, h⟩
      · obtain ⟨y77, hy77, h⟩ := bs h
        exact At.rK [0, 2, 4, 19] [0, 1, 2, 3, 4, 5, 6, 7, 8, 9, 10, 11, 12] [bT 3 b74, bT 8 b76, cT 12 6 [0, 1, 2, 3, 4, 5] (C_run_runner_none p1.Chan o0_0 o0_1 o0_2 o0_3 o0_4 o0_5 o0_6 o0_8 o0_9 o0_10 o0_11 o0_12 o0_13 o0_14 o0_15 o0_17 o0_18 o0_19 o0_20 o0_21 o0_22 o0_23 o0_24 o0_27 o0_28 o2 o1 o4 o5 y77 hy77)] fun _ _ i => ⟨(y77.1, y77.2.1, y77.2.2.1, y77.2.2.2.1, y77.2.2.2.2.1, y77.2.2.2.2.2.1, y77.2.2.2.2.2.2.1, y77.2.2.2.2.2.2.2.1, y77.2.2.2.2.2.2.2.2.1, y77.2.2.2.2.2.2.2.2.2.1, y77.2.2.2.2.2.2.2.2.2.2.1, y77.2.2.2.2.2.2.2.2.2.2.2.1, y77.2.2.2.2.2.2.2.2.2.2.2.2.1, y77.2.2.2.2.2.2.2.2.2.2.2.2.2.1, y77.2.2.2.2.2.2.2.2.2.2.2.2.2.2.1, y77.2.2.2.2.2.2.2.2.2.2.2.2.2.2.2.1, y77.2.2.2.2.2.2.2.2.2.2.2.2.2.2.2.2.1, y77.2.2.2.2.2.2.2.2.2.2.2.2.2.2.2.2.2.1, y77.2.2.2.2.2.2.2.2.2.2.2.2.2.2.2.2.2.2.1, y77.2.2.2.2.2.2.2.2.2.2.2.2.2.2.2.2.2.2.2.1, y77.2.2.2.2.2.2.2.2.2.2.2.2.2.2.2.2.2.2.2.2.1, y77.2.2.2.2.2.2.2.2.2.2.2.2.2.2.2.2.2.2.2.2.2.1, y77.2.2.2.2.2.2.2.2.2.2.2.2.2.2.2.2.2.2.2.2.2.2.1, y77.2.2.2.2.2.2.2.2.2.2.2.2.2.2.2.2.2.2.2.2.2.2.2.1, y77.2.2.2.2.2.2.2.2.2.2.2.2.2.2.2.2.2.2.2.2.2.2.2.2.1, y77.2.2.2.2.2.2.2.2.2.2.2.2.2.2.2.2.2.2.2.2.2.2.2.2.2.1, y77.2.2.2.2.2.2.2.2.2.2.2.2.2.2.2.2.2.2.2.2.2.2.2.2.2.2.1, y77.2.2.2.2.2.2.2.2.2.2.2.2.2.2.2.2.2.2.2.2.2.2.2.2.2.2.2), h, i⟩
      · exact At.rG [0, 2, 4, 19] [0, 1, 2, 3, 4, 5, 6, 7, 8, 9, 10, 11, 12] [bT 3 b74, bT 8 b76] fun _ _ i => ⟨(false, o0_0, o0_1, o0_2, o0_3, o0_4, o0_5, o0_6, o0_8, o0_9, o0_10, o0_11, o0_12, o0_13, o0_14, o0_15, o0_17, o0_18, o0_19, o0_20, o0_21, o0_22, o0_23, o0_24, o0_27, o0_28, o4, o5), h, i.en [.hideG 10, .hideG 11] [0, 2, 4, 19] [0, 1, 2, 3, 4, 5, 6, 7, 8, 9, 10, 11, 12]⟩
  · rintro ⟨x42, x43, x44, x45, x46, x47, x48, x49, x50, x51, x52, x53, x54, x55, x56, x57, x58, x59, x60, x61, x62, x63, x64, x65, x66, x67, x68, x69⟩ h
    replace h : F_run_runner_alt_J1 p1 p2 x42 x43 x44 x45 x46 x47 x48 x49 x50 x51 x52 x53 x54 x55 x56 x57 x58 x59 x60 x61 x62 x63 x64 x65 x66 x67 x68 x69 = some r := h
    refine At.cd h (fun b70 h => ?_) (fun b70 h => ?_)
    · refine At.eN [] [] [0, 1, 2, 3, 4, 5, 6, 7, 8, 9, 10, 11] ?_
      obtain rfl := sq h
      exact At.ret (At.rR hR [0, 1, 2, 3, 4, 5])
    · refine At.nR [0, 2, 4] [0, 1, 2, 3, 4, 5, 6, 7, 8, 9, 10, 11, 12] ?_
      refine At.skip (norm ?_)
      obtain ⟨y72, hy72, h⟩ := bs h
      refine At.sR [0, 4] [0, 1, 2, 3, 4, 5, 6, 7, 8, 9, 10, 11, 12] [c0 5 (C_code_Settle (⟨x43, x44, x45, x46, x47⟩ : T_api_Code) p2 y72 hy72)] ?_
      obtain ⟨g73, h⟩ := gs h
      obtain rfl := sq h
      refine At.dG 1 [] [0, 1, 2, 3, 4, 5, 6, 7, 8, 9, 10, 11] [aT T_api_Alt.enc_len 8 x69 ([(⟨p1.Kind, p1.Chan, p1.Val, p1.Slot, y72⟩ : T_api_Alt)]) rfl g73] (edq (l := []) (ks := []) (ρ := [0, 1, 2, 3, 4, 5, 6, 7, 8, 9, 10, 11]) (st' := ⟨[], [.blk 81 [lv T_api_Ins.enc x43, lv T_api_Def.enc x44, lv T_api_Chan.enc x45, i64 x46, i64 x47, i64 x48, i64 x49, .row 1 (o1).length, i64 x50, i64 x51, i64 x52, i64 x53, i64 x54, i64 x55, i64 x56, lv T_api_Alt.enc x57, .ptr 2 0, i64 x58, i64 x59, i64 x60, i64 x61, i64 x62, i64 x63, i64 x64, i64 x65, .row 4 (x68).length, .row 5 ((x69 ++ [(⟨p1.Kind, p1.Chan, p1.Val, p1.Slot, y72⟩ : T_api_Alt)])).length, i64 x66, bo x67], .row 3 1 (encL (eInt .i64) o1), .blk 123 [.row 3 (o2.l).length, i64 o2.most], .row 3 1 (encL (eInt .i64) o2.l), .row 3 1 (encL (eInt .i64) x68), .row 47 5 (encL T_api_Alt.enc (x69 ++ [(⟨p1.Kind, p1.Chan, p1.Val, p1.Slot, y72⟩ : T_api_Alt)])), .ghost (gv 0) (.ptr 0 0), .ghost (gv 1) (.row 1 0), .ghost (gv 2) (.ptr 2 0), .ghost (gv 3) (.row 3 0), .ghost (gv 4) (.undef), .ghost (gv 5) (.undef)]⟩) (by kernel_rfl) (At.rN hR [0, 1, 2, 3, 4, 5]))
theorem C_run_runner_reckons (p1 : T_api_Ins) (o0_0 : (List T_api_Ins)) (o0_1 : (List T_api_Def)) (o0_2 : (List T_api_Chan)) (o0_3 : Int) (o0_4 : Int) (o0_5 : Int) (o0_6 : Int) (o0_8 : Int) (o0_9 : Int) (o0_10 : Int) (o0_11 : Int) (o0_12 : Int) (o0_13 : Int) (o0_14 : Int) (o0_15 : (List T_api_Alt)) (o0_17 : Int) (o0_18 : Int) (o0_19 : Int) (o0_20 : Int) (o0_21 : Int) (o0_22 : Int) (o0_23 : Int) (o0_24 : Int) (o0_27 : Int) (o0_28 : Bool) (o2 : T_stack_Stack_int_) (o1 : (List Int)) (o4 : (List Int)) (o5 : (List T_api_Alt)) (r : Bool × (List T_api_Ins) × (List T_api_Def) × (List T_api_Chan) × Int × Int × Int × Int × Int × Int × Int × Int × Int × Int × Int × (List T_api_Alt) × Int × Int × Int × Int × Int × Int × Int × Int × Int × Bool × T_stack_Stack_int_ × (List Int) × (List T_api_Alt)) (h : F_run_runner_reckons p1 o0_0 o0_1 o0_2 o0_3 o0_4 o0_5 o0_6 o0_8 o0_9 o0_10 o0_11 o0_12 o0_13 o0_14 o0_15 o0_17 o0_18 o0_19 o0_20 o0_21 o0_22 o0_23 o0_24 o0_27 o0_28 o2 o1 o4 o5 = some r) : FnOK Tryz.prog 33 [.ptr 0 0, .agg (T_api_Ins.pvs p1)] [.blk 81 [lv T_api_Ins.enc o0_0, lv T_api_Def.enc o0_1, lv T_api_Chan.enc o0_2, i64 o0_3, i64 o0_4, i64 o0_5, i64 o0_6, .row 1 (o1).length, i64 o0_8, i64 o0_9, i64 o0_10, i64 o0_11, i64 o0_12, i64 o0_13, i64 o0_14, lv T_api_Alt.enc o0_15, .ptr 2 0, i64 o0_17, i64 o0_18, i64 o0_19, i64 o0_20, i64 o0_21, i64 o0_22, i64 o0_23, i64 o0_24, .row 4 (o4).length, .row 5 (o5).length, i64 o0_27, bo o0_28], .row 3 1 (encL (eInt .i64) o1), .blk 123 [.row 3 (o2.l).length, i64 o2.most], .row 3 1 (encL (eInt .i64) o2.l), .row 3 1 (encL (eInt .i64) o4), .row 47 5 (encL T_api_Alt.enc o5)] (bo r.1) [.blk 81 [lv T_api_Ins.enc r.2.1, lv T_api_Def.enc r.2.2.1, lv T_api_Chan.enc r.2.2.2.1, i64 r.2.2.2.2.1, i64 r.2.2.2.2.2.1, i64 r.2.2.2.2.2.2.1, i64 r.2.2.2.2.2.2.2.1, .row 1 (o1).length, i64 r.2.2.2.2.2.2.2.2.1, i64 r.2.2.2.2.2.2.2.2.2.1, i64 r.2.2.2.2.2.2.2.2.2.2.1, i64 r.2.2.2.2.2.2.2.2.2.2.2.1, i64 r.2.2.2.2.2.2.2.2.2.2.2.2.1, i64 r.2.2.2.2.2.2.2.2.2.2.2.2.2.1, i64 r.2.2.2.2.2.2.2.2.2.2.2.2.2.2.1, lv T_api_Alt.enc r.2.2.2.2.2.2.2.2.2.2.2.2.2.2.2.1, .ptr 2 0, i64 r.2.2.2.2.2.2.2.2.2.2.2.2.2.2.2.2.1, i64 r.2.2.2.2.2.2.2.2.2.2.2.2.2.2.2.2.2.1, i64 r.2.2.2.2.2.2.2.2.2.2.2.2.2.2.2.2.2.2.1, i64 r.2.2.2.2.2.2.2.2.2.2.2.2.2.2.2.2.2.2.2.1, i64 r.2.2.2.2.2.2.2.2.2.2.2.2.2.2.2.2.2.2.2.2.1, i64 r.2.2.2.2.2.2.2.2.2.2.2.2.2.2.2.2.2.2.2.2.2.1, i64 r.2.2.2.2.2.2.2.2.2.2.2.2.2.2.2.2.2.2.2.2.2.2.1, i64 r.2.2.2.2.2.2.2.2.2.2.2.2.2.2.2.2.2.2.2.2.2.2.2.1, .row 4 (r.2.2.2.2.2.2.2.2.2.2.2.2.2.2.2.2.2.2.2.2.2.2.2.2.2.2.2.1).length, .row 5 (r.2.2.2.2.2.2.2.2.2.2.2.2.2.2.2.2.2.2.2.2.2.2.2.2.2.2.2.2).length, i64 r.2.2.2.2.2.2.2.2.2.2.2.2.2.2.2.2.2.2.2.2.2.2.2.2.1, bo r.2.2.2.2.2.2.2.2.2.2.2.2.2.2.2.2.2.2.2.2.2.2.2.2.2.1], .row 3 1 (encL (eInt .i64) o1), .blk 123 [.row 3 (r.2.2.2.2.2.2.2.2.2.2.2.2.2.2.2.2.2.2.2.2.2.2.2.2.2.2.1.l).length, i64 r.2.2.2.2.2.2.2.2.2.2.2.2.2.2.2.2.2.2.2.2.2.2.2.2.2.2.1.most], .row 3 1 (encL (eInt .i64) r.2.2.2.2.2.2.2.2.2.2.2.2.2.2.2.2.2.2.2.2.2.2.2.2.2.2.1.l), .row 3 1 (encL (eInt .i64) r.2.2.2.2.2.2.2.2.2.2.2.2.2.2.2.2.2.2.2.2.2.2.2.2.2.2.2.1), .row 47 5 (encL T_api_Alt.enc r.2.2.2.2.2.2.2.2.2.2.2.2.2.2.2.2.2.2.2.2.2.2.2.2.2.2.2.2)] [1, 2, 5, 6, 7, 8, 9, 10, 11] := by
  refine fI Tryz.func33 rfl fun E gv R hR => ?_
  refine At.sR [0, 3] [0, 1, 2, 3, 4, 5, 6, 7, 8, 9, 10, 11, 12] [] ?_
  refine At.seqJ (S := (List T_api_Ins) × (List T_api_Def) × (List T_api_Chan) × Int × Int × Int × Int × Int × Int × Int × Int × Int × Int × Int × (List T_api_Alt) × Int × Int × Int × Int × Int × Int × Int × Int × Int × Bool × Int × (List Int) × (List Int) × (List T_api_Alt)) (fun s => ⟨[], [.blk 81 [lv T_api_Ins.enc s.1, lv T_api_Def.enc s.2.1, lv T_api_Chan.enc s.2.2.1, i64 s.2.2.2.1, i64 s.2.2.2.2.1, i64 s.2.2.2.2.2.1, i64 s.2.2.2.2.2.2.1, .row 1 (o1).length, i64 s.2.2.2.2.2.2.2.1, i64 s.2.2.2.2.2.2.2.2.1, i64 s.2.2.2.2.2.2.2.2.2.1, i64 s.2.2.2.2.2.2.2.2.2.2.1, i64 s.2.2.2.2.2.2.2.2.2.2.2.1, i64 s.2.2.2.2.2.2.2.2.2.2.2.2.1, i64 s.2.2.2.2.2.2.2.2.2.2.2.2.2.1, lv T_api_Alt.enc s.2.2.2.2.2.2.2.2.2.2.2.2.2.2.1, .ptr 2 0, i64 s.2.2.2.2.2.2.2.2.2.2.2.2.2.2.2.1, i64 s.2.2.2.2.2.2.2.2.2.2.2.2.2.2.2.2.1, i64 s.2.2.2.2.2.2.2.2.2.2.2.2.2.2.2.2.2.1, i64 s.2.2.2.2.2.2.2.2.2.2.2.2.2.2.2.2.2.2.1, i64 s.2.2.2.2.2.2.2.2.2.2.2.2.2.2.2.2.2.2.2.1, i64 s.2.2.2.2.2.2.2.2.2.2.2.2.2.2.2.2.2.2.2.2.1, i64 s.2.2.2.2.2.2.2.2.2.2.2.2.2.2.2.2.2.2.2.2.2.1, i64 s.2.2.2.2.2.2.2.2.2.2.2.2.2.2.2.2.2.2.2.2.2.2.1, .row 4 (s.2.2.2.2.2.2.2.2.2.2.2.2.2.2.2.2.2.2.2.2.2.2.2.2.2.2.2.1).length, .row 5 (s.2.2.2.2.2.2.2.2.2.2.2.2.2.2.2.2.2.2.2.2.2.2.2.2.2.2.2.2).length, i64 s.2.2.2.2.2.2.2.2.2.2.2.2.2.2.2.2.2.2.2.2.2.2.2.1, bo s.2.2.2.2.2.2.2.2.2.2.2.2.2.2.2.2.2.2.2.2.2.2.2.2.1], .row 3 1 (encL (eInt .i64) o1), .blk 123 [.row 3 (s.2.2.2.2.2.2.2.2.2.2.2.2.2.2.2.2.2.2.2.2.2.2.2.2.2.2.1).length, i64 s.2.2.2.2.2.2.2.2.2.2.2.2.2.2.2.2.2.2.2.2.2.2.2.2.2.1], .row 3 1 (encL (eInt .i64) s.2.2.2.2.2.2.2.2.2.2.2.2.2.2.2.2.2.2.2.2.2.2.2.2.2.2.1), .row 3 1 (encL (eInt .i64) s.2.2.2.2.2.2.2.2.2.2.2.2.2.2.2.2.2.2.2.2.2.2.2.2.2.2.2.1), .row 47 5 (encL T_api_Alt.enc s.2.2.2.2.2.2.2.2.2.2.2.2.2.2.2.2.2.2.2.2.2.2.2.2.2.2.2.2), .ghost (gv 0) (.ptr 0 0), .ghost (gv 1) (.row 1 0), .ghost (gv 2) (.ptr 2 0), .ghost (gv 3) (.undef), .ghost (gv 4) (.undef), .ghost (gv 5) (.undef)]⟩) (fun s => F_run_runner_reckons_J1 s.1 s.2.1 s.2.2.1 s.2.2.2.1 s.2.2.2.2.1 s.2.2.2.2.2.1 s.2.2.2.2.2.2.1 s.2.2.2.2.2.2.2.1 s.2.2.2.2.2.2.2.2.1 s.2.2.2.2.2.2.2.2.2.1 s.2.2.2.2.2.2.2.2.2.2.1 s.2.2.2.2.2.2.2.2.2.2.2.1 s.2.2.2.2.2.2.2.2.2.2.2.2.1 s.2.2.2.2.2.2.2.2.2.2.2.2.2.1 s.2.2.2.2.2.2.2.2.2.2.2.2.2.2.1 s.2.2.2.2.2.2.2.2.2.2.2.2.2.2.2.1 s.2.2.2.2.2.2.2.2.2.2.2.2.2.2.2.2.1 s.2.2.2.2.2.2.2.2.2.2.2.2.2.2.2.2.2.1 s.2.2.2.2.2.2.2.2.2.2.2.2.2.2.2.2.2.2.1 s.2.2.2.2.2.2.2.2.2.2.2.2.2.2.2.2.2.2.2.1 s.2.2.2.2.2.2.2.2.2.2.2.2.2.2.2.2.2.2.2.2.1 s.2.2.2.2.2.2.2.2.2.2.2.2.2.2.2.2.2.2.2.2.2.1 s.2.2.2.2.2.2.2.2.2.2.2.2.2.2.2.2.2.2.2.2.2.2.1 s.2.2.2.2.2.2.2.2.2.2.2.2.2.2.2.2.2.2.2.2.2.2.2.1 s.2.2.2.2.2.2.2.2.2.2.2.2.2.2.2.2.2.2.2.2.2.2.2.2.1 s.2.2.2.2.2.2.2.2.2.2.2.2.2.2.2.2.2.2.2.2.2.2.2.2.2.1 s.2.2.2.2.2.2.2.2.2.2.2.2.2.2.2.2.2.2.2.2.2.2.2.2.2.2.1 s.2.2.2.2.2.2.2.2.2.2.2.2.2.2.2.2.2.2.2.2.2.2.2.2.2.2.2.1 s.2.2.2.2.2.2.2.2.2.2.2.2.2.2.2.2.2.2.2.2.2.2.2.2.2.2.2.2 = some r) ?_ ?_
  · refine At.sR [0, 3, 7] [0, 1, 2, 3, 4, 5, 6, 7, 8, 9, 10, 11, 12] [] ?_
    refine At.block ?_
    refine At.sR [0, 3, 7, 8] [0, 1, 2, 3, 4, 5, 6, 7, 8, 9, 10, 11, 12] [] ?_
    refine At.cd h (fun b61 h => ?_) (fun b61 h => ?_)
    · obtain ⟨y62, hy62, h⟩ := bs h
      exact At.rK [] [0, 1, 2, 3, 4, 5, 6, 7, 8, 9, 10, 11] [cT 4 7 [0, 1, 2, 3, 4, 5, 13] (C_run_runner_lay o0_0 o0_1 o0_2 o0_3 o0_4 o0_5 o0_6 o0_8 o0_9 o0_10 o0_11 o0_12 o0_13 o0_14 o0_15 o0_17 o0_18 o0_19 o0_20 o0_21 o0_22 o0_23 o0_24 o0_27 o0_28 o2 o1 o4 o5 ([p1.A]) y62 hy62)] fun _ _ i => ⟨(y62.1, y62.2.1, y62.2.2.1, y62.2.2.2.1, y62.2.2.2.2.1, y62.2.2.2.2.2.1, y62.2.2.2.2.2.2.1, y62.2.2.2.2.2.2.2.1, y62.2.2.2.2.2.2.2.2.1, y62.2.2.2.2.2.2.2.2.2.1, y62.2.2.2.2.2.2.2.2.2.2.1, y62.2.2.2.2.2.2.2.2.2.2.2.1, y62.2.2.2.2.2.2.2.2.2.2.2.2.1, y62.2.2.2.2.2.2.2.2.2.2.2.2.2.1, y62.2.2.2.2.2.2.2.2.2.2.2.2.2.2.1, y62.2.2.2.2.2.2.2.2.2.2.2.2.2.2.2.1, y62.2.2.2.2.2.2.2.2.2.2.2.2.2.2.2.2.1, y62.2.2.2.2.2.2.2.2.2.2.2.2.2.2.2.2.2.1, y62.2.2.2.2.2.2.2.2.2.2.2.2.2.2.2.2.2.2.1, y62.2.2.2.2.2.2.2.2.2.2.2.2.2.2.2.2.2.2.2.1, y62.2.2.2.2.2.2.2.2.2.2.2.2.2.2.2.2.2.2.2.2.1, y62.2.2.2.2.2.2.2.2.2.2.2.2.2.2.2.2.2.2.2.2.2.1, y62.2.2.2.2.2.2.2.2.2.2.2.2.2.2.2.2.2.2.2.2.2.2.1, y62.2.2.2.2.2.2.2.2.2.2.2.2.2.2.2.2.2.2.2.2.2.2.2.1, y62.2.2.2.2.2.2.2.2.2.2.2.2.2.2.2.2.2.2.2.2.2.2.2.2.1, y62.2.2.2.2.2.2.2.2.2.2.2.2.2.2.2.2.2.2.2.2.2.2.2.2.2.1.most, y62.2.2.2.2.2.2.2.2.2.2.2.2.2.2.2.2.2.2.2.2.2.2.2.2.2.1.l, y62.2.2.2.2.2.2.2.2.2.2.2.2.2.2.2.2.2.2.2.2.2.2.2.2.2.2.1, y62.2.2.2.2.2.2.2.2.2.2.2.2.2.2.2.2.2.2.2.2.2.2.2.2.2.2.2), h, i⟩
    · refine At.sR [0, 3, 7, 15] [0, 1, 2, 3, 4, 5, 6, 7, 8, 9, 10, 11, 12] [] ?_
      refine At.cd h (fun b63 h => ?_) (fun b63 h => ?_)
      · obtain ⟨y64, hy64, h⟩ := bs h
        obtain ⟨y65, hy65, h⟩ := bs h
        exact At.rK [] [0, 1, 2, 3, 4, 5, 6, 7, 8, 9, 10, 11] [cT 4 6 [0, 1, 2, 3, 4, 5] (C_run_runner_slot p1.A o0_0 o0_1 o0_2 o0_3 o0_4 o0_5 o0_6 o0_8 o0_9 o0_10 o0_11 o0_12 o0_13 o0_14 o0_15 o0_17 o0_18 o0_19 o0_20 o0_21 o0_22 o0_23 o0_24 o0_27 o0_28 o2 o1 o4 o5 y64 hy64), cT 6 7 [0, 1, 2, 3, 4, 5, 13] (C_run_runner_lay o0_0 o0_1 o0_2 o0_3 o0_4 o0_5 o0_6 o0_8 o0_9 o0_10 o0_11 o0_12 o0_13 o0_14 o0_15 o0_17 o0_18 o0_19 o0_20 o0_21 o0_22 o0_23 o0_24 o0_27 o0_28 o2 o1 o4 o5 ([y64]) y65 hy65)] fun _ _ i => ⟨(y65.1, y65.2.1, y65.2.2.1, y65.2.2.2.1, y65.2.2.2.2.1, y65.2.2.2.2.2.1, y65.2.2.2.2.2.2.1, y65.2.2.2.2.2.2.2.1, y65.2.2.2.2.2.2.2.2.1, y65.2.2.2.2.2.2.2.2.2.1, y65.2.2.2.2.2.2.2.2.2.2.1, y65.2.2.2.2.2.2.2.2.2.2.2.1, y65.2.2.2.2.2.2.2.2.2.2.2.2.1, y65.2.2.2.2.2.2.2.2.2.2.2.2.2.1, y65.2.2.2.2.2.2.2.2.2.2.2.2.2.2.1, y65.2.2.2.2.2.2.2.2.2.2.2.2.2.2.2.1, y65.2.2.2.2.2.2.2.2.2.2.2.2.2.2.2.2.1, y65.2.2.2.2.2.2.2.2.2.2.2.2.2.2.2.2.2.1, y65.2.2.2.2.2.2.2.2.2.2.2.2.2.2.2.2.2.2.1, y65.2.2.2.2.2.2.2.2.2.2.2.2.2.2.2.2.2.2.2.1, y65.2.2.2.2.2.2.2.2.2.2.2.2.2.2.2.2.2.2.2.2.1, y65.2.2.2.2.2.2.2.2.2.2.2.2.2.2.2.2.2.2.2.2.2.1, y65.2.2.2.2.2.2.2.2.2.2.2.2.2.2.2.2.2.2.2.2.2.2.1, y65.2.2.2.2.2.2.2.2.2.2.2.2.2.2.2.2.2.2.2.2.2.2.2.1, y65.2.2.2.2.2.2.2.2.2.2.2.2.2.2.2.2.2.2.2.2.2.2.2.2.1, y65.2.2.2.2.2.2.2.2.2.2.2.2.2.2.2.2.2.2.2.2.2.2.2.2.2.1.most, y65.2.2.2.2.2.2.2.2.2.2.2.2.2.2.2.2.2.2.2.2.2.2.2.2.2.1.l, y65.2.2.2.2.2.2.2.2.2.2.2.2.2.2.2.2.2.2.2.2.2.2.2.2.2.2.1, y65.2.2.2.2.2.2.2.2.2.2.2.2.2.2.2.2.2.2.2.2.2.2.2.2.2.2.2), h, i⟩
      · refine At.sR [0, 3, 7, 24] [0, 1, 2, 3, 4, 5, 6, 7, 8, 9, 10, 11, 12] [] ?_
        refine At.cd h (fun b66 h => ?_) (fun b66 h => ?_)
        · obtain ⟨y67, hy67, h⟩ := bs h
          exact At.rK [] [0, 1, 2, 3, 4, 5, 6, 7, 8, 9, 10, 11] [cT 3 6 [0, 1, 2, 3, 4, 5] (C_run_runner_reckon p1.A o0_0 o0_1 o0_2 o0_3 o0_4 o0_5 o0_6 o0_8 o0_9 o0_10 o0_11 o0_12 o0_13 o0_14 o0_15 o0_17 o0_18 o0_19 o0_20 o0_21 o0_22 o0_23 o0_24 o0_27 o0_28 o2 o1 o4 o5 y67 hy67)] fun _ _ i => ⟨(y67.1, y67.2.1, y67.2.2.1, y67.2.2.2.1, y67.2.2.2.2.1, y67.2.2.2.2.2.1, y67.2.2.2.2.2.2.1, y67.2.2.2.2.2.2.2.1, y67.2.2.2.2.2.2.2.2.1, y67.2.2.2.2.2.2.2.2.2.1, y67.2.2.2.2.2.2.2.2.2.2.1, y67.2.2.2.2.2.2.2.2.2.2.2.1, y67.2.2.2.2.2.2.2.2.2.2.2.2.1, y67.2.2.2.2.2.2.2.2.2.2.2.2.2.1, y67.2.2.2.2.2.2.2.2.2.2.2.2.2.2.1, y67.2.2.2.2.2.2.2.2.2.2.2.2.2.2.2.1, y67.2.2.2.2.2.2.2.2.2.2.2.2.2.2.2.2.1, y67.2.2.2.2.2.2.2.2.2.2.2.2.2.2.2.2.2.1, y67.2.2.2.2.2.2.2.2.2.2.2.2.2.2.2.2.2.2.1, y67.2.2.2.2.2.2.2.2.2.2.2.2.2.2.2.2.2.2.2.1, y67.2.2.2.2.2.2.2.2.2.2.2.2.2.2.2.2.2.2.2.2.1, y67.2.2.2.2.2.2.2.2.2.2.2.2.2.2.2.2.2.2.2.2.2.1, y67.2.2.2.2.2.2.2.2.2.2.2.2.2.2.2.2.2.2.2.2.2.2.1, y67.2.2.2.2.2.2.2.2.2.2.2.2.2.2.2.2.2.2.2.2.2.2.2.1, y67.2.2.2.2.2.2.2.2.2.2.2.2.2.2.2.2.2.2.2.2.2.2.2.2.1, y67.2.2.2.2.2.2.2.2.2.2.2.2.2.2.2.2.2.2.2.2.2.2.2.2.2.1.most, y67.2.2.2.2.2.2.2.2.2.2.2.2.2.2.2.2.2.2.2.2.2.2.2.2.2.1.l, y67.2.2.2.2.2.2.2.2.2.2.2.2.2.2.2.2.2.2.2.2.2.2.2.2.2.2.1, y67.2.2.2.2.2.2.2.2.2.2.2.2.2.2.2.2.2.2.2.2.2.2.2.2.2.2.2), h, i⟩
        · refine At.seq ?_
          refine At.rK (st' := ⟨[(0, .ptr 0 0), (3, .ptr 12 0), (7, i64 p1.Op), (30, bo (p1.Op == 6))], [.blk 81 [lv T_api_Ins.enc o0_0, lv T_api_Def.enc o0_1, lv T_api_Chan.enc o0_2, i64 o0_3, i64 o0_4, i64 o0_5, i64 o0_6, .row 1 (o1).length, i64 o0_8, i64 o0_9, i64 o0_10, i64 o0_11, i64 o0_12, i64 o0_13, i64 o0_14, lv T_api_Alt.enc o0_15, .ptr 2 0, i64 o0_17, i64 o0_18, i64 o0_19, i64 o0_20, i64 o0_21, i64 o0_22, i64 o0_23, i64 o0_24, .row 4 (o4).length, .row 5 (o5).length, i64 o0_27, bo o0_28], .row 3 1 (encL (eInt .i64) o1), .blk 123 [.row 3 (o2.l).length, i64 o2.most], .row 3 1 (encL (eInt .i64) o2.l), .row 3 1 (encL (eInt .i64) o4), .row 47 5 (encL T_api_Alt.enc o5), .ghost (gv 0) (.ptr 0 0), .ghost (gv 1) (.row 1 0), .ghost (gv 2) (.ptr 2 0), .ghost (gv 3) (.row 3 0), .ghost (gv 4) (.row 4 0), .ghost (gv 5) (.row 5 0), .blk 50 (T_api_Ins.pvs p1)]⟩) [0, 3, 7, 30] [0, 1, 2, 3, 4, 5, 6, 7, 8, 9, 10, 11, 12] [] (norm ?_)
          refine At.cd h (fun b68 h => ?_) (fun b68 h => ?_)
          · obtain ⟨y69, hy69, h⟩ := bs h
            exact At.rG [] [0, 1, 2, 3, 4, 5, 6, 7, 8, 9, 10, 11] [cT 3 6 [0, 1, 2, 3, 4, 5] (C_run_runner_jump p1.A true o0_0 o0_1 o0_2 o0_3 o0_4 o0_5 o0_6 o0_8 o0_9 o0_10 o0_11 o0_12 o0_13 o0_14 o0_15 o0_17 o0_18 o0_19 o0_20 o0_21 o0_22 o0_23 o0_24 o0_27 o0_28 o2 o1 o4 o5 y69 hy69)] fun _ _ i => ⟨(y69.1, y69.2.1, y69.2.2.1, y69.2.2.2.1, y69.2.2.2.2.1, y69.2.2.2.2.2.1, y69.2.2.2.2.2.2.1, y69.2.2.2.2.2.2.2.1, y69.2.2.2.2.2.2.2.2.1, y69.2.2.2.2.2.2.2.2.2.1, y69.2.2.2.2.2.2.2.2.2.2.1, y69.2.2.2.2.2.2.2.2.2.2.2.1, y69.2.2.2.2.2.2.2.2.2.2.2.2.1, y69.2.2.2.2.2.2.2.2.2.2.2.2.2.1, y69.2.2.2.2.2.2.2.2.2.2.2.2.2.2.1, y69.2.2.2.2.2.2.2.2.2.2.2.2.2.2.2.1, y69.2.2.2.2.2.2.2.2.2.2.2.2.2.2.2.2.1, y69.2.2.2.2.2.2.2.2.2.2.2.2.2.2.2.2.2.1, y69.2.2.2.2.2.2.2.2.2.2.2.2.2.2.2.2.2.2.1, y69.2.2.2.2.2.2.2.2.2.2.2.2.2.2.2.2.2.2.2.1, y69.2.2.2.2.2.2.2.2.2.2.2.2.2.2.2.2.2.2.2.2.1, y69.2.2.2.2.2.2.2.2.2.2.2.2.2.2.2.2.2.2.2.2.2.1, y69.2.2.2.2.2.2.2.2.2.2.2.2.2.2.2.2.2.2.2.2.2.2.1, y69.2.2.2.2.2.2.2.2.2.2.2.2.2.2.2.2.2.2.2.2.2.2.2.1, y69.2.2.2.2.2.2.2.2.2.2.2.2.2.2.2.2.2.2.2.2.2.2.2.2, o2.most, o2.l, o4, o5), h, i.en [.hideG 9, .hideG 10, .hideG 11] [] [0, 1, 2, 3, 4, 5, 6, 7, 8, 9, 10, 11]⟩
          · refine At.sR [0, 3, 7, 36] [0, 1, 2, 3, 4, 5, 6, 7, 8, 9, 10, 11, 12] [] ?_
            refine At.cd h (fun b70 h => ?_) (fun b70 h => ?_)
            · obtain ⟨y71, hy71, h⟩ := bs h
              obtain ⟨y72, hy72, h⟩ := bs h
              exact At.dG 0 [] [0, 1, 2, 3, 4, 5, 6, 7, 8, 9, 10, 11] [cT 4 6 [0, 1, 2, 3, 4, 5] (C_run_runner_take o0_0 o0_1 o0_2 o0_3 o0_4 o0_5 o0_6 o0_8 o0_9 o0_10 o0_11 o0_12 o0_13 o0_14 o0_15 o0_17 o0_18 o0_19 o0_20 o0_21 o0_22 o0_23 o0_24 o0_27 o0_28 o2 o1 o4 o5 y71 hy71), cT 6 6 [0, 1, 2, 3, 4, 5] (C_run_runner_jump p1.A (y71.1 == 0) o0_0 o0_1 o0_2 o0_3 o0_4 o0_5 o0_6 o0_8 o0_9 o0_10 o0_11 o0_12 o0_13 o0_14 o0_15 o0_17 o0_18 o0_19 o0_20 o0_21 o0_22 o0_23 o0_24 o0_27 o0_28 y71.2 o1 o4 o5 y72 hy72)] fun _ _ i => ⟨(y72.1, y72.2.1, y72.2.2.1, y72.2.2.2.1, y72.2.2.2.2.1, y72.2.2.2.2.2.1, y72.2.2.2.2.2.2.1, y72.2.2.2.2.2.2.2.1, y72.2.2.2.2.2.2.2.2.1, y72.2.2.2.2.2.2.2.2.2.1, y72.2.2.2.2.2.2.2.2.2.2.1, y72.2.2.2.2.2.2.2.2.2.2.2.1, y72.2.2.2.2.2.2.2.2.2.2.2.2.1, y72.2.2.2.2.2.2.2.2.2.2.2.2.2.1, y72.2.2.2.2.2.2.2.2.2.2.2.2.2.2.1, y72.2.2.2.2.2.2.2.2.2.2.2.2.2.2.2.1, y72.2.2.2.2.2.2.2.2.2.2.2.2.2.2.2.2.1, y72.2.2.2.2.2.2.2.2.2.2.2.2.2.2.2.2.2.1, y72.2.2.2.2.2.2.2.2.2.2.2.2.2.2.2.2.2.2.1, y72.2.2.2.2.2.2.2.2.2.2.2.2.2.2.2.2.2.2.2.1, y72.2.2.2.2.2.2.2.2.2.2.2.2.2.2.2.2.2.2.2.2.1, y72.2.2.2.2.2.2.2.2.2.2.2.2.2.2.2.2.2.2.2.2.2.1, y72.2.2.2.2.2.2.2.2.2.2.2.2.2.2.2.2.2.2.2.2.2.2.1, y72.2.2.2.2.2.2.2.2.2.2.2.2.2.2.2.2.2.2.2.2.2.2.2.1, y72.2.2.2.2.2.2.2.2.2.2.2.2.2.2.2.2.2.2.2.2.2.2.2.2, y71.2.most, y71.2.l, o4, o5), h, i.en [.hideG 10, .hideG 11] [] [0, 1, 2, 3, 4, 5, 6, 7, 8, 9, 10, 11]⟩
            · refine At.sR [0, 3, 7, 45] [0, 1, 2, 3, 4, 5, 6, 7, 8, 9, 10, 11, 12] [] ?_
              refine At.cd h (fun b73 h => ?_) (fun b73 h => ?_)
              · obtain ⟨y74, hy74, h⟩ := bs h
                obtain ⟨y75, hy75, h⟩ := bs h
                exact At.dG 0 [] [0, 1, 2, 3, 4, 5, 6, 7, 8, 9, 10, 11] [cT 4 6 [0, 1, 2, 3, 4, 5] (C_run_runner_take o0_0 o0_1 o0_2 o0_3 o0_4 o0_5 o0_6 o0_8 o0_9 o0_10 o0_11 o0_12 o0_13 o0_14 o0_15 o0_17 o0_18 o0_19 o0_20 o0_21 o0_22 o0_23 o0_24 o0_27 o0_28 o2 o1 o4 o5 y74 hy74), cT 6 6 [0, 1, 2, 3, 4, 5] (C_run_runner_jump p1.A (y74.1 != 0) o0_0 o0_1 o0_2 o0_3 o0_4 o0_5 o0_6 o0_8 o0_9 o0_10 o0_11 o0_12 o0_13 o0_14 o0_15 o0_17 o0_18 o0_19 o0_20 o0_21 o0_22 o0_23 o0_24 o0_27 o0_28 y74.2 o1 o4 o5 y75 hy75)] fun _ _ i => ⟨(y75.1, y75.2.1, y75.2.2.1, y75.2.2.2.1, y75.2.2.2.2.1, y75.2.2.2.2.2.1, y75.2.2.2.2.2.2.1, y75.2.2.2.2.2.2.2.1, y75.2.2.2.2.2.2.2.2.1, y75.2.2.2.2.2.2.2.2.2.1, y75.2.2.2.2.2.2.2.2.2.2.1, y75.2.2.2.2.2.2.2.2.2.2.2.1, y75.2.2.2.2.2.2.2.2.2.2.2.2.1, y75.2.2.2.2.2.2.2.2.2.2.2.2.2.1, y75.2.2.2.2.2.2.2.2.2.2.2.2.2.2.1, y75.2.2.2.2.2.2.2.2.2.2.2.2.2.2.2.1, y75.2.2.2.2.2.2.2.2.2.2.2.2.2.2.2.2.1, y75.2.2.2.2.2.2.2.2.2.2.2.2.2.2.2.2.2.1, y75.2.2.2.2.2.2.2.2.2.2.2.2.2.2.2.2.2.2.1, y75.2.2.2.2.2.2.2.2.2.2.2.2.2.2.2.2.2.2.2.1, y75.2.2.2.2.2.2.2.2.2.2.2.2.2.2.2.2.2.2.2.2.1, y75.2.2.2.2.2.2.2.2.2.2.2.2.2.2.2.2.2.2.2.2.2.1, y75.2.2.2.2.2.2.2.2.2.2.2.2.2.2.2.2.2.2.2.2.2.2.1, y75.2.2.2.2.2.2.2.2.2.2.2.2.2.2.2.2.2.2.2.2.2.2.2.1, y75.2.2.2.2.2.2.2.2.2.2.2.2.2.2.2.2.2.2.2.2.2.2.2.2, y74.2.most, y74.2.l, o4, o5), h, i.en [.hideG 10, .hideG 11] [] [0, 1, 2, 3, 4, 5, 6, 7, 8, 9, 10, 11]⟩
              · refine At.sR [0, 3, 7, 54] [0, 1, 2, 3, 4, 5, 6, 7, 8, 9, 10, 11, 12] [] ?_
                refine At.cd h (fun b76 h => ?_) (fun b76 h => ?_)
                · obtain ⟨y77, hy77, h⟩ := bs h
                  exact At.rK [] [0, 1, 2, 3, 4, 5, 6, 7, 8, 9, 10, 11] [cT 2 6 [0, 1, 2, 3, 4, 5] (C_run_runner_channel p1 o0_0 o0_1 o0_2 o0_3 o0_4 o0_5 o0_6 o0_8 o0_9 o0_10 o0_11 o0_12 o0_13 o0_14 o0_15 o0_17 o0_18 o0_19 o0_20 o0_21 o0_22 o0_23 o0_24 o0_27 o0_28 o2 o1 o4 o5 y77 hy77)] fun _ _ i => ⟨(y77.1, y77.2.1, y77.2.2.1, y77.2.2.2.1, y77.2.2.2.2.1, y77.2.2.2.2.2.1, y77.2.2.2.2.2.2.1, y77.2.2.2.2.2.2.2.1, y77.2.2.2.2.2.2.2.2.1, y77.2.2.2.2.2.2.2.2.2.1, y77.2.2.2.2.2.2.2.2.2.2.1, y77.2.2.2.2.2.2.2.2.2.2.2.1, y77.2.2.2.2.2.2.2.2.2.2.2.2.1, y77.2.2.2.2.2.2.2.2.2.2.2.2.2.1, y77.2.2.2.2.2.2.2.2.2.2.2.2.2.2.1, y77.2.2.2.2.2.2.2.2.2.2.2.2.2.2.2.1, y77.2.2.2.2.2.2.2.2.2.2.2.2.2.2.2.2.1, y77.2.2.2.2.2.2.2.2.2.2.2.2.2.2.2.2.2.1, y77.2.2.2.2.2.2.2.2.2.2.2.2.2.2.2.2.2.2.1, y77.2.2.2.2.2.2.2.2.2.2.2.2.2.2.2.2.2.2.2.1, y77.2.2.2.2.2.2.2.2.2.2.2.2.2.2.2.2.2.2.2.2.1, y77.2.2.2.2.2.2.2.2.2.2.2.2.2.2.2.2.2.2.2.2.2.1, y77.2.2.2.2.2.2.2.2.2.2.2.2.2.2.2.2.2.2.2.2.2.2.1, y77.2.2.2.2.2.2.2.2.2.2.2.2.2.2.2.2.2.2.2.2.2.2.2.1, y77.2.2.2.2.2.2.2.2.2.2.2.2.2.2.2.2.2.2.2.2.2.2.2.2.1, y77.2.2.2.2.2.2.2.2.2.2.2.2.2.2.2.2.2.2.2.2.2.2.2.2.2.1.most, y77.2.2.2.2.2.2.2.2.2.2.2.2.2.2.2.2.2.2.2.2.2.2.2.2.2.1.l, y77.2.2.2.2.2.2.2.2.2.2.2.2.2.2.2.2.2.2.2.2.2.2.2.2.2.2.1, y77.2.2.2.2.2.2.2.2.2.2.2.2.2.2.2.2.2.2.2.2.2.2.2.2.2.2.2), h, i⟩
                · refine At.sR [0, 3, 7, 59] [0, 1, 2, 3, 4, 5, 6, 7, 8, 9, 10, 11, 12] [] ?_
                  refine At.cd h (fun b78 h => ?_) (fun b78 h => ?_)
                  · refine At.nR [] [0, 1, 2, 3, 4, 5, 6, 7, 8, 9, 10, 11] ?_
                    refine At.skip (fun _ _ i => ⟨(o0_0, o0_1, o0_2, o0_3, o0_4, o0_5, o0_6, o0_8, o0_9, o0_10, o0_11, o0_12, o0_13, o0_14, o0_15, o0_17, o0_18, o0_19, o0_20, o0_21, o0_22, o0_23, o0_24, o0_27, o0_28, o2.most, o2.l, o4, o5), h, i.en [.hideG 9, .hideG 10, .hideG 11] [] [0, 1, 2, 3, 4, 5, 6, 7, 8, 9, 10, 11]⟩)
                  · refine At.sR [0, 3, 7, 61] [0, 1, 2, 3, 4, 5, 6, 7, 8, 9, 10, 11, 12] [] ?_
                    refine At.cd h (fun b79 h => ?_) (fun b79 h => ?_)
                    · obtain ⟨y80, hy80, h⟩ := bs h
                      obtain ⟨y81, hy81, h⟩ := bs h
                      exact At.dK 0 [] [0, 1, 2, 3, 4, 5, 6, 7, 8, 9, 10, 11] [cT 2 6 [0, 1, 2, 3, 4, 5] (C_run_runner_take o0_0 o0_1 o0_2 o0_3 o0_4 o0_5 o0_6 o0_8 o0_9 o0_10 o0_11 o0_12 o0_13 o0_14 o0_15 o0_17 o0_18 o0_19 o0_20 o0_21 o0_22 o0_23 o0_24 o0_27 o0_28 o2 o1 o4 o5 y80 hy80), cT 8 6 [0, 1, 2, 3, 4, 5] (C_run_runner_alt (⟨1, y80.1, 0, p1.A, 0⟩ : T_api_Alt) p1.B o0_0 o0_1 o0_2 o0_3 o0_4 o0_5 o0_6 o0_8 o0_9 o0_10 o0_11 o0_12 o0_13 o0_14 o0_15 o0_17 o0_18 o0_19 o0_20 o0_21 o0_22 o0_23 o0_24 o0_27 o0_28 y80.2 o1 o4 o5 y81 hy81)] fun _ _ i => ⟨(y81.1, y81.2.1, y81.2.2.1, y81.2.2.2.1, y81.2.2.2.2.1, y81.2.2.2.2.2.1, y81.2.2.2.2.2.2.1, y81.2.2.2.2.2.2.2.1, y81.2.2.2.2.2.2.2.2.1, y81.2.2.2.2.2.2.2.2.2.1, y81.2.2.2.2.2.2.2.2.2.2.1, y81.2.2.2.2.2.2.2.2.2.2.2.1, y81.2.2.2.2.2.2.2.2.2.2.2.2.1, y81.2.2.2.2.2.2.2.2.2.2.2.2.2.1, y81.2.2.2.2.2.2.2.2.2.2.2.2.2.2.1, y81.2.2.2.2.2.2.2.2.2.2.2.2.2.2.2.1, y81.2.2.2.2.2.2.2.2.2.2.2.2.2.2.2.2.1, y81.2.2.2.2.2.2.2.2.2.2.2.2.2.2.2.2.2.1, y81.2.2.2.2.2.2.2.2.2.2.2.2.2.2.2.2.2.2.1, y81.2.2.2.2.2.2.2.2.2.2.2.2.2.2.2.2.2.2.2.1, y81.2.2.2.2.2.2.2.2.2.2.2.2.2.2.2.2.2.2.2.2.1, y81.2.2.2.2.2.2.2.2.2.2.2.2.2.2.2.2.2.2.2.2.2.1, y81.2.2.2.2.2.2.2.2.2.2.2.2.2.2.2.2.2.2.2.2.2.2.1, y81.2.2.2.2.2.2.2.2.2.2.2.2.2.2.2.2.2.2.2.2.2.2.2.1, y81.2.2.2.2.2.2.2.2.2.2.2.2.2.2.2.2.2.2.2.2.2.2.2.2.1, y80.2.most, y80.2.l, y81.2.2.2.2.2.2.2.2.2.2.2.2.2.2.2.2.2.2.2.2.2.2.2.2.2.1, y81.2.2.2.2.2.2.2.2.2.2.2.2.2.2.2.2.2.2.2.2.2.2.2.2.2.2), h, i⟩
                    · refine At.seq ?_
                      refine At.rK (st' := ⟨[(0, .ptr 0 0), (3, .ptr 12 0), (7, i64 p1.Op), (72, bo (p1.Op == 20))], [.blk 81 [lv T_api_Ins.enc o0_0, lv T_api_Def.enc o0_1, lv T_api_Chan.enc o0_2, i64 o0_3, i64 o0_4, i64 o0_5, i64 o0_6, .row 1 (o1).length, i64 o0_8, i64 o0_9, i64 o0_10, i64 o0_11, i64 o0_12, i64 o0_13, i64 o0_14, lv T_api_Alt.enc o0_15, .ptr 2 0, i64 o0_17, i64 o0_18, i64 o0_19, i64 o0_20, i64 o0_21, i64 o0_22, i64 o0_23, i64 o0_24, .row 4 (o4).length, .row 5 (o5).length, i64 o0_27, bo o0_28], .row 3 1 (encL (eInt .i64) o1), .blk 123 [.row 3 (o2.l).length, i64 o2.most], .row 3 1 (encL (eInt .i64) o2.l), .row 3 1 (encL (eInt .i64) o4), .row 47 5 (encL T_api_Alt.enc o5), .ghost (gv 0) (.ptr 0 0), .ghost (gv 1) (.row 1 0), .ghost (gv 2) (.ptr 2 0), .ghost (gv 3) (.row 3 0), .ghost (gv 4) (.row 4 0), .ghost (gv 5) (.row 5 0), .blk 50 (T_api_Ins.pvs p1)]⟩) [0, 3, 7, 72] [0, 1, 2, 3, 4, 5, 6, 7, 8, 9, 10, 11, 12] [] (norm ?_)
                      refine At.cd h (fun b82 h => ?_) (fun b82 h => ?_)
                      · obtain ⟨y84, hy84, h⟩ := bs h
                        refine At.sR [0, 3, 5] [0, 1, 2, 3, 4, 5, 6, 7, 8, 9, 10, 11, 12] [cT 1 6 [0, 1, 2, 3, 4, 5] (C_run_runner_take o0_0 o0_1 o0_2 o0_3 o0_4 o0_5 o0_6 o0_8 o0_9 o0_10 o0_11 o0_12 o0_13 o0_14 o0_15 o0_17 o0_18 o0_19 o0_20 o0_21 o0_22 o0_23 o0_24 o0_27 o0_28 o2 o1 o4 o5 y84 hy84)] ?_
                        obtain ⟨y85, hy85, h⟩ := bs h
                        obtain ⟨y86, hy86, h⟩ := bs h
                        exact At.dK 0 [] [0, 1, 2, 3, 4, 5, 6, 7, 8, 9, 10, 11] [cT 3 6 [0, 1, 2, 3, 4, 5] (C_run_runner_take o0_0 o0_1 o0_2 o0_3 o0_4 o0_5 o0_6 o0_8 o0_9 o0_10 o0_11 o0_12 o0_13 o0_14 o0_15 o0_17 o0_18 o0_19 o0_20 o0_21 o0_22 o0_23 o0_24 o0_27 o0_28 y84.2 o1 o4 o5 y85 hy85), cT 7 6 [0, 1, 2, 3, 4, 5] (C_run_runner_alt (⟨2, y85.1, y84.1, 0, 0⟩ : T_api_Alt) p1.A o0_0 o0_1 o0_2 o0_3 o0_4 o0_5 o0_6 o0_8 o0_9 o0_10 o0_11 o0_12 o0_13 o0_14 o0_15 o0_17 o0_18 o0_19 o0_20 o0_21 o0_22 o0_23 o0_24 o0_27 o0_28 y85.2 o1 o4 o5 y86 hy86)] fun _ _ i => ⟨(y86.1, y86.2.1, y86.2.2.1, y86.2.2.2.1, y86.2.2.2.2.1, y86.2.2.2.2.2.1, y86.2.2.2.2.2.2.1, y86.2.2.2.2.2.2.2.1, y86.2.2.2.2.2.2.2.2.1, y86.2.2.2.2.2.2.2.2.2.1, y86.2.2.2.2.2.2.2.2.2.2.1, y86.2.2.2.2.2.2.2.2.2.2.2.1, y86.2.2.2.2.2.2.2.2.2.2.2.2.1, y86.2.2.2.2.2.2.2.2.2.2.2.2.2.1, y86.2.2.2.2.2.2.2.2.2.2.2.2.2.2.1, y86.2.2.2.2.2.2.2.2.2.2.2.2.2.2.2.1, y86.2.2.2.2.2.2.2.2.2.2.2.2.2.2.2.2.1, y86.2.2.2.2.2.2.2.2.2.2.2.2.2.2.2.2.2.1, y86.2.2.2.2.2.2.2.2.2.2.2.2.2.2.2.2.2.2.1, y86.2.2.2.2.2.2.2.2.2.2.2.2.2.2.2.2.2.2.2.1, y86.2.2.2.2.2.2.2.2.2.2.2.2.2.2.2.2.2.2.2.2.1, y86.2.2.2.2.2.2.2.2.2.2.2.2.2.2.2.2.2.2.2.2.2.1, y86.2.2.2.2.2.2.2.2.2.2.2.2.2.2.2.2.2.2.2.2.2.2.1, y86.2.2.2.2.2.2.2.2.2.2.2.2.2.2.2.2.2.2.2.2.2.2.2.1, y86.2.2.2.2.2.2.2.2.2.2.2.2.2.2.2.2.2.2.2.2.2.2.2.2.1, y85.2.most, y85.2.l, y86.2.2.2.2.2.2.2.2.2.2.2.2.2.2.2.2.2.2.2.2.2.2.2.2.2.1, y86.2.2.2.2.2.2.2.2.2.2.2.2.2.2.2.2.2.2.2.2.2.2.2.2.2.2), h, i⟩
                      · refine At.sR [0, 3, 7, 84] [0, 1, 2, 3, 4, 5, 6, 7, 8, 9, 10, 11, 12] [] ?_
                        refine At.cd h (fun b87 h => ?_) (fun b87 h => ?_)
                        · obtain ⟨y88, hy88, h⟩ := bs h
                          obtain ⟨y89, hy89, h⟩ := bs h
                          exact At.dK 0 [] [0, 1, 2, 3, 4, 5, 6, 7, 8, 9, 10, 11] [cT 2 6 [0, 1, 2, 3, 4, 5] (C_run_runner_take o0_0 o0_1 o0_2 o0_3 o0_4 o0_5 o0_6 o0_8 o0_9 o0_10 o0_11 o0_12 o0_13 o0_14 o0_15 o0_17 o0_18 o0_19 o0_20 o0_21 o0_22 o0_23 o0_24 o0_27 o0_28 o2 o1 o4 o5 y88 hy88), cT 6 6 [0, 1, 2, 3, 4, 5] (C_run_runner_alt (⟨3, 0, y88.1, 0, 0⟩ : T_api_Alt) p1.A o0_0 o0_1 o0_2 o0_3 o0_4 o0_5 o0_6 o0_8 o0_9 o0_10 o0_11 o0_12 o0_13 o0_14 o0_15 o0_17 o0_18 o0_19 o0_20 o0_21 o0_22 o0_23 o0_24 o0_27 o0_28 y88.2 o1 o4 o5 y89 hy89)] fun _ _ i => ⟨(y89.1, y89.2.1, y89.2.2.1, y89.2.2.2.1, y89.2.2.2.2.1, y89.2.2.2.2.2.1, y89.2.2.2.2.2.2.1, y89.2.2.2.2.2.2.2.1, y89.2.2.2.2.2.2.2.2.1, y89.2.2.2.2.2.2.2.2.2.1, y89.2.2.2.2.2.2.2.2.2.2.1, y89.2.2.2.2.2.2.2.2.2.2.2.1, y89.2.2.2.2.2.2.2.2.2.2.2.2.1, y89.2.2.2.2.2.2.2.2.2.2.2.2.2.1, y89.2.2.2.2.2.2.2.2.2.2.2.2.2.2.1, y89.2.2.2.2.2.2.2.2.2.2.2.2.2.2.2.1, y89.2.2.2.2.2.2.2.2.2.2.2.2.2.2.2.2.1, y89.2.2.2.2.2.2.2.2.2.2.2.2.2.2.2.2.2.1, y89.2.2.2.2.2.2.2.2.2.2.2.2.2.2.2.2.2.2.1, y89.2.2.2.2.2.2.2.2.2.2.2.2.2.2.2.2.2.2.2.1, y89.2.2.2.2.2.2.2.2.2.2.2.2.2.2.2.2.2.2.2.2.1, y89.2.2.2.2.2.2.2.2.2.2.2.2.2.2.2.2.2.2.2.2.2.1, y89.2.2.2.2.2.2.2.2.2.2.2.2.2.2.2.2.2.2.2.2.2.2.1, y89.2.2.2.2.2.2.2.2.2.2.2.2.2.2.2.2.2.2.2.2.2.2.2.1, y89.2.2.2.2.2.2.2.2.2.2.2.2.2.2.2.2.2.2.2.2.2.2.2.2.1, y88.2.most, y88.2.l, y89.2.2.2.2.2.2.2.2.2.2.2.2.2.2.2.2.2.2.2.2.2.2.2.2.2.1, y89.2.2.2.2.2.2.2.2.2.2.2.2.2.2.2.2.2.2.2.2.2.2.2.2.2.2), h, i⟩
                        · refine At.sR [0, 3, 93] [0, 1, 2, 3, 4, 5, 6, 7, 8, 9, 10, 11, 12] [] ?_
                          refine At.cd h (fun b90 h => ?_) (fun b90 h => ?_)
                          · obtain ⟨y91, hy91, h⟩ := bs h
                            exact At.rG [] [0, 1, 2, 3, 4, 5, 6, 7, 8, 9, 10, 11] [cT 4 6 [0, 1, 2, 3, 4, 5] (C_run_runner_alt (⟨4, 0, 0, 0, 0⟩ : T_api_Alt) p1.A o0_0 o0_1 o0_2 o0_3 o0_4 o0_5 o0_6 o0_8 o0_9 o0_10 o0_11 o0_12 o0_13 o0_14 o0_15 o0_17 o0_18 o0_19 o0_20 o0_21 o0_22 o0_23 o0_24 o0_27 o0_28 o2 o1 o4 o5 y91 hy91)] fun _ _ i => ⟨(y91.1, y91.2.1, y91.2.2.1, y91.2.2.2.1, y91.2.2.2.2.1, y91.2.2.2.2.2.1, y91.2.2.2.2.2.2.1, y91.2.2.2.2.2.2.2.1, y91.2.2.2.2.2.2.2.2.1, y91.2.2.2.2.2.2.2.2.2.1, y91.2.2.2.2.2.2.2.2.2.2.1, y91.2.2.2.2.2.2.2.2.2.2.2.1, y91.2.2.2.2.2.2.2.2.2.2.2.2.1, y91.2.2.2.2.2.2.2.2.2.2.2.2.2.1, y91.2.2.2.2.2.2.2.2.2.2.2.2.2.2.1, y91.2.2.2.2.2.2.2.2.2.2.2.2.2.2.2.1, y91.2.2.2.2.2.2.2.2.2.2.2.2.2.2.2.2.1, y91.2.2.2.2.2.2.2.2.2.2.2.2.2.2.2.2.2.1, y91.2.2.2.2.2.2.2.2.2.2.2.2.2.2.2.2.2.2.1, y91.2.2.2.2.2.2.2.2.2.2.2.2.2.2.2.2.2.2.2.1, y91.2.2.2.2.2.2.2.2.2.2.2.2.2.2.2.2.2.2.2.2.1, y91.2.2.2.2.2.2.2.2.2.2.2.2.2.2.2.2.2.2.2.2.2.1, y91.2.2.2.2.2.2.2.2.2.2.2.2.2.2.2.2.2.2.2.2.2.2.1, y91.2.2.2.2.2.2.2.2.2.2.2.2.2.2.2.2.2.2.2.2.2.2.2.1, y91.2.2.2.2.2.2.2.2.2.2.2.2.2.2.2.2.2.2.2.2.2.2.2.2.1, o2.most, o2.l, y91.2.2.2.2.2.2.2.2.2.2.2.2.2.2.2.2.2.2.2.2.2.2.2.2.2.1, y91.2.2.2.2.2.2.2.2.2.2.2.2.2.2.2.2.2.2.2.2.2.2.2.2.2.2), h, i.en [.hideG 9] [] [0, 1, 2, 3, 4, 5, 6, 7, 8, 9, 10, 11]⟩
                          · refine At.sR [4] [0, 1, 2, 3, 4, 5, 6, 7, 8, 9, 10, 11] [] ?_
                            refine At.eN [.hideG 9, .hideG 10, .hideG 11] [4] [0, 1, 2, 3, 4, 5, 6, 7, 8, 9, 10, 11] ?_
                            obtain rfl := sq h
                            exact At.ret (At.rR hR [0, 1, 2, 3, 4, 5])
  · rintro ⟨x32, x33, x34, x35, x36, x37, x38, x39, x40, x41, x42, x43, x44, x45, x46, x47, x48, x49, x50, x51, x52, x53, x54, x55, x56, x57, x58, x59, x60⟩ h
    replace h : F_run_runner_reckons_J1 x32 x33 x34 x35 x36 x37 x38 x39 x40 x41 x42 x43 x44 x45 x46 x47 x48 x49 x50 x51 x52 x53 x54 x55 x56 x57 x58 x59 x60 = some r := h
    refine At.sR [4] [0, 1, 2, 3, 4, 5, 6, 7, 8, 9, 10, 11] [] ?_
    obtain rfl := sq h
    exact At.ret (At.rR hR [0, 1, 2, 3, 4, 5])
theorem C_run_runner_ends (p1 : T_api_Ins) (p2 : Int) (o0_0 : (List T_api_Ins)) (o0_1 : (List T_api_Def)) (o0_2 : (List T_api_Chan)) (o0_3 : Int) (o0_4 : Int) (o0_5 : Int) (o0_6 : Int) (o0_8 : Int) (o0_9 : Int) (o0_10 : Int) (o0_11 : Int) (o0_12 : Int) (o0_13 : Int) (o0_14 : Int) (o0_15 : (List T_api_Alt)) (o0_17 : Int) (o0_18 : Int) (o0_19 : Int) (o0_20 : Int) (o0_21 : Int) (o0_22 : Int) (o0_23 : Int) (o0_24 : Int) (o0_27 : Int) (o0_28 : Bool) (o2 : T_stack_Stack_int_) (o1 : (List Int)) (o4 : (List Int)) (o5 : (List T_api_Alt)) (r : ((List T_api_Ins) × (List T_api_Def) × (List T_api_Chan) × Int × Int × Int × Int × Int × Int × Int × Int × Int × Int × Int × (List T_api_Alt) × Int × Int × Int × Int × Int × Int × Int × Int × Int × Bool × T_stack_Stack_int_ × (List Int) × (List T_api_Alt)) ⊕ ((List T_api_Ins) × (List T_api_Def) × (List T_api_Chan) × Int × Int × Int × Int × Int × Int × Int × Int × Int × Int × Int × (List T_api_Alt) × Int × Int × Int × Int × Int × Int × Int × Int × Int × Bool × T_stack_Stack_int_ × (List T_api_Alt) × (List Int)) ⊕ ((List T_api_Ins) × (List T_api_Def) × (List T_api_Chan) × Int × Int × Int × Int × Int × Int × Int × Int × Int × Int × Int × (List T_api_Alt) × Int × Int × Int × Int × Int × Int × Int × Int × Int × Bool × (List T_api_Alt))) (h : F_run_runner_ends p1 p2 o0_0 o0_1 o0_2 o0_3 o0_4 o0_5 o0_6 o0_8 o0_9 o0_10 o0_11 o0_12 o0_13 o0_14 o0_15 o0_17 o0_18 o0_19 o0_20 o0_21 o0_22 o0_23 o0_24 o0_27 o0_28 o2 o1 o4 o5 = some r) : FnOK Tryz.prog 34 [.ptr 0 0, .agg (T_api_Ins.pvs p1), i64 p2] [.blk 81 [lv T_api_Ins.enc o0_0, lv T_api_Def.enc o0_1, lv T_api_Chan.enc o0_2, i64 o0_3, i64 o0_4, i64 o0_5, i64 o0_6, .row 1 (o1).length, i64 o0_8, i64 o0_9, i64 o0_10, i64 o0_11, i64 o0_12, i64 o0_13, i64 o0_14, lv T_api_Alt.enc o0_15, .ptr 2 0, i64 o0_17, i64 o0_18, i64 o0_19, i64 o0_20, i64 o0_21, i64 o0_22, i64 o0_23, i64 o0_24, .row 4 (o4).length, .row 5 (o5).length, i64 o0_27, bo o0_28], .row 3 1 (encL (eInt .i64) o1), .blk 123 [.row 3 (o2.l).length, i64 o2.most], .row 3 1 (encL (eInt .i64) o2.l), .row 3 1 (encL (eInt .i64) o4), .row 47 5 (encL T_api_Alt.enc o5)] ((Sum.elim (fun r => .tup []) (Sum.elim (fun r => .tup []) (fun r => .tup []))) r) ((Sum.elim (fun r => [.blk 81 [lv T_api_Ins.enc r.1, lv T_api_Def.enc r.2.1, lv T_api_Chan.enc r.2.2.1, i64 r.2.2.2.1, i64 r.2.2.2.2.1, i64 r.2.2.2.2.2.1, i64 r.2.2.2.2.2.2.1, .row 1 (o1).length, i64 r.2.2.2.2.2.2.2.1, i64 r.2.2.2.2.2.2.2.2.1, i64 r.2.2.2.2.2.2.2.2.2.1, i64 r.2.2.2.2.2.2.2.2.2.2.1, i64 r.2.2.2.2.2.2.2.2.2.2.2.1, i64 r.2.2.2.2.2.2.2.2.2.2.2.2.1, i64 r.2.2.2.2.2.2.2.2.2.2.2.2.2.1, lv T_api_Alt.enc r.2.2.2.2.2.2.2.2.2.2.2.2.2.2.1, .ptr 2 0, i64 r.2.2.2.2.2.2.2.2.2.2.2.2.2.2.2.1, i64 r.2.2.2.2.2.2.2.2.2.2.2.2.2.2.2.2.1, i64 r.2.2.2.2.2.2.2.2.2.2.2.2.2.2.2.2.2.1, i64 r.2.2.2.2.2.2.2.2.2.2.2.2.2.2.2.2.2.2.1, i64 r.2.2.2.2.2.2.2.2.2.2.2.2.2.2.2.2.2.2.2.1, i64 r.2.2.2.2.2.2.2.2.2.2.2.2.2.2.2.2.2.2.2.2.1, i64 r.2.2.2.2.2.2.2.2.2.2.2.2.2.2.2.2.2.2.2.2.2.1, i64 r.2.2.2.2.2.2.2.2.2.2.2.2.2.2.2.2.2.2.2.2.2.2.1, .row 4 (r.2.2.2.2.2.2.2.2.2.2.2.2.2.2.2.2.2.2.2.2.2.2.2.2.2.2.1).length, .row 6 (r.2.2.2.2.2.2.2.2.2.2.2.2.2.2.2.2.2.2.2.2.2.2.2.2.2.2.2).length, i64 r.2.2.2.2.2.2.2.2.2.2.2.2.2.2.2.2.2.2.2.2.2.2.2.1, bo r.2.2.2.2.2.2.2.2.2.2.2.2.2.2.2.2.2.2.2.2.2.2.2.2.1], .row 3 1 (encL (eInt .i64) o1), .blk 123 [.row 3 (r.2.2.2.2.2.2.2.2.2.2.2.2.2.2.2.2.2.2.2.2.2.2.2.2.2.1.l).length, i64 r.2.2.2.2.2.2.2.2.2.2.2.2.2.2.2.2.2.2.2.2.2.2.2.2.2.1.most], .row 3 1 (encL (eInt .i64) r.2.2.2.2.2.2.2.2.2.2.2.2.2.2.2.2.2.2.2.2.2.2.2.2.2.1.l), .row 3 1 (encL (eInt .i64) r.2.2.2.2.2.2.2.2.2.2.2.2.2.2.2.2.2.2.2.2.2.2.2.2.2.2.1), .row 47 5 (encL T_api_Alt.enc o5), .row 47 5 (encL T_api_Alt.enc r.2.2.2.2.2.2.2.2.2.2.2.2.2.2.2.2.2.2.2.2.2.2.2.2.2.2.2)]) (Sum.elim (fun r => [.blk 81 [lv T_api_Ins.enc r.1, lv T_api_Def.enc r.2.1, lv T_api_Chan.enc r.2.2.1, i64 r.2.2.2.1, i64 r.2.2.2.2.1, i64 r.2.2.2.2.2.1, i64 r.2.2.2.2.2.2.1, .row 1 (o1).length, i64 r.2.2.2.2.2.2.2.1, i64 r.2.2.2.2.2.2.2.2.1, i64 r.2.2.2.2.2.2.2.2.2.1, i64 r.2.2.2.2.2.2.2.2.2.2.1, i64 r.2.2.2.2.2.2.2.2.2.2.2.1, i64 r.2.2.2.2.2.2.2.2.2.2.2.2.1, i64 r.2.2.2.2.2.2.2.2.2.2.2.2.2.1, lv T_api_Alt.enc r.2.2.2.2.2.2.2.2.2.2.2.2.2.2.1, .ptr 2 0, i64 r.2.2.2.2.2.2.2.2.2.2.2.2.2.2.2.1, i64 r.2.2.2.2.2.2.2.2.2.2.2.2.2.2.2.2.1, i64 r.2.2.2.2.2.2.2.2.2.2.2.2.2.2.2.2.2.1, i64 r.2.2.2.2.2.2.2.2.2.2.2.2.2.2.2.2.2.2.1, i64 r.2.2.2.2.2.2.2.2.2.2.2.2.2.2.2.2.2.2.2.1, i64 r.2.2.2.2.2.2.2.2.2.2.2.2.2.2.2.2.2.2.2.2.1, i64 r.2.2.2.2.2.2.2.2.2.2.2.2.2.2.2.2.2.2.2.2.2.1, i64 r.2.2.2.2.2.2.2.2.2.2.2.2.2.2.2.2.2.2.2.2.2.2.1, .row 6 (r.2.2.2.2.2.2.2.2.2.2.2.2.2.2.2.2.2.2.2.2.2.2.2.2.2.2.2).length, .row 5 (r.2.2.2.2.2.2.2.2.2.2.2.2.2.2.2.2.2.2.2.2.2.2.2.2.2.2.1).length, i64 r.2.2.2.2.2.2.2.2.2.2.2.2.2.2.2.2.2.2.2.2.2.2.2.1, bo r.2.2.2.2.2.2.2.2.2.2.2.2.2.2.2.2.2.2.2.2.2.2.2.2.1], .row 3 1 (encL (eInt .i64) o1), .blk 123 [.row 3 (r.2.2.2.2.2.2.2.2.2.2.2.2.2.2.2.2.2.2.2.2.2.2.2.2.2.1.l).length, i64 r.2.2.2.2.2.2.2.2.2.2.2.2.2.2.2.2.2.2.2.2.2.2.2.2.2.1.most], .row 3 1 (encL (eInt .i64) r.2.2.2.2.2.2.2.2.2.2.2.2.2.2.2.2.2.2.2.2.2.2.2.2.2.1.l), .row 3 1 (encL (eInt .i64) o4), .row 47 5 (encL T_api_Alt.enc r.2.2.2.2.2.2.2.2.2.2.2.2.2.2.2.2.2.2.2.2.2.2.2.2.2.2.1), .row 3 1 (encL (eInt .i64) r.2.2.2.2.2.2.2.2.2.2.2.2.2.2.2.2.2.2.2.2.2.2.2.2.2.2.2)]) (fun r => [.blk 81 [lv T_api_Ins.enc r.1, lv T_api_Def.enc r.2.1, lv T_api_Chan.enc r.2.2.1, i64 r.2.2.2.1, i64 r.2.2.2.2.1, i64 r.2.2.2.2.2.1, i64 r.2.2.2.2.2.2.1, .row 1 (o1).length, i64 r.2.2.2.2.2.2.2.1, i64 r.2.2.2.2.2.2.2.2.1, i64 r.2.2.2.2.2.2.2.2.2.1, i64 r.2.2.2.2.2.2.2.2.2.2.1, i64 r.2.2.2.2.2.2.2.2.2.2.2.1, i64 r.2.2.2.2.2.2.2.2.2.2.2.2.1, i64 r.2.2.2.2.2.2.2.2.2.2.2.2.2.1, lv T_api_Alt.enc r.2.2.2.2.2.2.2.2.2.2.2.2.2.2.1, .ptr 2 0, i64 r.2.2.2.2.2.2.2.2.2.2.2.2.2.2.2.1, i64 r.2.2.2.2.2.2.2.2.2.2.2.2.2.2.2.2.1, i64 r.2.2.2.2.2.2.2.2.2.2.2.2.2.2.2.2.2.1, i64 r.2.2.2.2.2.2.2.2.2.2.2.2.2.2.2.2.2.2.1, i64 r.2.2.2.2.2.2.2.2.2.2.2.2.2.2.2.2.2.2.2.1, i64 r.2.2.2.2.2.2.2.2.2.2.2.2.2.2.2.2.2.2.2.2.1, i64 r.2.2.2.2.2.2.2.2.2.2.2.2.2.2.2.2.2.2.2.2.2.1, i64 r.2.2.2.2.2.2.2.2.2.2.2.2.2.2.2.2.2.2.2.2.2.2.1, .row 4 (o4).length, .row 5 (r.2.2.2.2.2.2.2.2.2.2.2.2.2.2.2.2.2.2.2.2.2.2.2.2.2).length, i64 r.2.2.2.2.2.2.2.2.2.2.2.2.2.2.2.2.2.2.2.2.2.2.2.1, bo r.2.2.2.2.2.2.2.2.2.2.2.2.2.2.2.2.2.2.2.2.2.2.2.2.1], .row 3 1 (encL (eInt .i64) o1), .blk 123 [.row 3 (o2.l).length, i64 o2.most], .row 3 1 (encL (eInt .i64) o2.l), .row 3 1 (encL (eInt .i64) o4), .row 47 5 (encL T_api_Alt.enc r.2.2.2.2.2.2.2.2.2.2.2.2.2.2.2.2.2.2.2.2.2.2.2.2.2)]))) r) [1, 2, 5, 6, 7, 8, 9, 10, 11] := by
  refine fI Tryz.func34 rfl fun E gv R hR => ?_
  refine At.sR [0, 2, 4] [0, 1, 2, 3, 4, 5, 6, 7, 8, 9, 10, 11, 12] [] ?_
  obtain ⟨y2, hy2, h⟩ := bs h
  refine At.sR [0, 2, 4, 6] [0, 1, 2, 3, 4, 5, 6, 7, 8, 9, 10, 11, 12] [c0 6 (C_code_Settle (⟨o0_0, o0_1, o0_2, o0_3, o0_4⟩ : T_api_Code) (w64 (p2 + 1)) y2 hy2)] ?_
  refine At.sR [0, 2, 4, 6, 7] [0, 1, 2, 3, 4, 5, 6, 7, 8, 9, 10, 11, 12] [] ?_
  refine At.sR [0, 2, 4, 6, 7] [0, 1, 2, 3, 4, 5, 6, 7, 8, 9, 10, 11, 12] [] ?_
  refine At.sR [0, 2, 4, 6, 7, 27] [0, 1, 2, 3, 4, 5, 6, 7, 8, 9, 10, 11, 12] [] ?_
  refine At.block ?_
  refine At.seqJ (S := Bool) (fun s => ⟨[(0, .ptr 0 0), (2, i64 p2), (4, .ptr 12 0), (6, i64 y2), (7, .row 5 (o5).length), (27, i64 p1.Op), (28, bo s)], [.blk 81 [lv T_api_Ins.enc o0_0, lv T_api_Def.enc o0_1, lv T_api_Chan.enc o0_2, i64 o0_3, i64 o0_4, i64 o0_5, i64 o0_6, .row 1 (o1).length, i64 o0_8, i64 o0_9, i64 o0_10, i64 o0_11, i64 o0_12, i64 o0_13, i64 o0_14, lv T_api_Alt.enc o0_15, .ptr 2 0, i64 o0_17, i64 o0_18, i64 o0_19, i64 o0_20, i64 o0_21, i64 o0_22, i64 o0_23, i64 o0_24, .row 4 (o4).length, .d (.list true 0 []), i64 o0_27, bo o0_28], .row 3 1 (encL (eInt .i64) o1), .blk 123 [.row 3 (o2.l).length, i64 o2.most], .row 3 1 (encL (eInt .i64) o2.l), .row 3 1 (encL (eInt .i64) o4), .row 47 5 (encL T_api_Alt.enc o5), .ghost (gv 0) (.ptr 0 0), .ghost (gv 1) (.row 1 0), .ghost (gv 2) (.ptr 2 0), .ghost (gv 3) (.row 3 0), .ghost (gv 4) (.row 4 0), .ghost (gv 5) (.row 5 0), .blk 50 (T_api_Ins.pvs p1)]⟩) (fun s => F_run_runner_ends_J1 p1 p2 o0_0 o0_1 o0_2 o0_3 o0_4 o0_5 o0_6 o0_8 o0_9 o0_10 o0_11 o0_12 o0_13 o0_14 o0_15 o0_17 o0_18 o0_19 o0_20 o0_21 o0_22 o0_23 o0_24 o0_27 o0_28 o2 o1 o4 o5 y2 s = some r) ?_ ?_
  · refine At.seq ?_
    refine At.rK (st' := ⟨[(0, .ptr 0 0), (2, i64 p2), (4, .ptr 12 0), (6, i64 y2), (7, .row 5 (o5).length), (27, i64 p1.Op), (28, bo (p1.Op == 1))], [.blk 81 [lv T_api_Ins.enc o0_0, lv T_api_Def.enc o0_1, lv T_api_Chan.enc o0_2, i64 o0_3, i64 o0_4, i64 o0_5, i64 o0_6, .row 1 (o1).length, i64 o0_8, i64 o0_9, i64 o0_10, i64 o0_11, i64 o0_12, i64 o0_13, i64 o0_14, lv T_api_Alt.enc o0_15, .ptr 2 0, i64 o0_17, i64 o0_18, i64 o0_19, i64 o0_20, i64 o0_21, i64 o0_22, i64 o0_23, i64 o0_24, .row 4 (o4).length, .d (.list true 0 []), i64 o0_27, bo o0_28], .row 3 1 (encL (eInt .i64) o1), .blk 123 [.row 3 (o2.l).length, i64 o2.most], .row 3 1 (encL (eInt .i64) o2.l), .row 3 1 (encL (eInt .i64) o4), .row 47 5 (encL T_api_Alt.enc o5), .ghost (gv 0) (.ptr 0 0), .ghost (gv 1) (.row 1 0), .ghost (gv 2) (.ptr 2 0), .ghost (gv 3) (.row 3 0), .ghost (gv 4) (.row 4 0), .ghost (gv 5) (.row 5 0), .blk 50 (T_api_Ins.pvs p1)]⟩) [0, 2, 4, 6, 7, 27, 28] [0, 1, 2, 3, 4, 5, 6, 7, 8, 9, 10, 11, 12] [] (norm ?_)
    refine At.cd h (fun b65 h => ?_) (fun b65 h => ?_)
    · refine At.skip (fun _ _ i => ⟨(p1.Op == 1), h, i⟩)
    · exact At.rK [0, 2, 4, 6, 7, 27, 28] [0, 1, 2, 3, 4, 5, 6, 7, 8, 9, 10, 11, 12] [] fun _ _ i => ⟨(p1.Op == 24), h, i⟩
  · intro x4 h
    refine At.cd h (fun b5 h => ?_) (fun b5 h => ?_)
    · refine At.eds [.ownO 0 26 47 5] (st' := ⟨[(0, .ptr 0 0), (2, i64 p2), (4, .ptr 12 0), (6, i64 y2), (7, .row 5 (o5).length), (27, i64 p1.Op), (28, bo x4)], [.blk 81 [lv T_api_Ins.enc o0_0, lv T_api_Def.enc o0_1, lv T_api_Chan.enc o0_2, i64 o0_3, i64 o0_4, i64 o0_5, i64 o0_6, .row 1 (o1).length, i64 o0_8, i64 o0_9, i64 o0_10, i64 o0_11, i64 o0_12, i64 o0_13, i64 o0_14, lv T_api_Alt.enc o0_15, .ptr 2 0, i64 o0_17, i64 o0_18, i64 o0_19, i64 o0_20, i64 o0_21, i64 o0_22, i64 o0_23, i64 o0_24, .row 4 (o4).length, .row 13 ([] : List T_api_Alt).length, i64 o0_27, bo o0_28], .row 3 1 (encL (eInt .i64) o1), .blk 123 [.row 3 (o2.l).length, i64 o2.most], .row 3 1 (encL (eInt .i64) o2.l), .row 3 1 (encL (eInt .i64) o4), .row 47 5 (encL T_api_Alt.enc o5), .ghost (gv 0) (.ptr 0 0), .ghost (gv 1) (.row 1 0), .ghost (gv 2) (.ptr 2 0), .ghost (gv 3) (.row 3 0), .ghost (gv 4) (.row 4 0), .ghost (gv 5) (.row 5 0), .blk 50 (T_api_Ins.pvs p1), .row 47 5 (encL T_api_Alt.enc ([]))]⟩) (by kernel_rfl) ?_
      obtain ⟨y6, hy6, h⟩ := bs h
      obtain rfl := sq h
      refine At.rG [] [0, 1, 2, 3, 4, 5, 6, 7, 8, 9, 10, 11, 13] [cT 2 6 [0, 1, 2, 3, 4, 13] (C_run_runner_end 1 p2 o0_0 o0_1 o0_2 o0_3 o0_4 o0_5 o0_6 o0_8 o0_9 o0_10 o0_11 o0_12 o0_13 o0_14 o0_15 o0_17 o0_18 o0_19 o0_20 o0_21 o0_22 o0_23 o0_24 o0_27 o0_28 o2 o1 o4 ([] : List T_api_Alt) y6 hy6)] (edq (l := [.hideG 9, .hideG 10, .hideG 11]) (ks := []) (ρ := [0, 1, 2, 3, 4, 5, 6, 7, 8, 9, 10, 11, 12]) (st' := ⟨[], [.blk 81 [lv T_api_Ins.enc y6.1, lv T_api_Def.enc y6.2.1, lv T_api_Chan.enc y6.2.2.1, i64 y6.2.2.2.1, i64 y6.2.2.2.2.1, i64 y6.2.2.2.2.2.1, i64 y6.2.2.2.2.2.2.1, .row 1 (o1).length, i64 y6.2.2.2.2.2.2.2.1, i64 y6.2.2.2.2.2.2.2.2.1, i64 y6.2.2.2.2.2.2.2.2.2.1, i64 y6.2.2.2.2.2.2.2.2.2.2.1, i64 y6.2.2.2.2.2.2.2.2.2.2.2.1, i64 y6.2.2.2.2.2.2.2.2.2.2.2.2.1, i64 y6.2.2.2.2.2.2.2.2.2.2.2.2.2.1, lv T_api_Alt.enc y6.2.2.2.2.2.2.2.2.2.2.2.2.2.2.1, .ptr 2 0, i64 y6.2.2.2.2.2.2.2.2.2.2.2.2.2.2.2.1, i64 y6.2.2.2.2.2.2.2.2.2.2.2.2.2.2.2.2.1, i64 y6.2.2.2.2.2.2.2.2.2.2.2.2.2.2.2.2.2.1, i64 y6.2.2.2.2.2.2.2.2.2.2.2.2.2.2.2.2.2.2.1, i64 y6.2.2.2.2.2.2.2.2.2.2.2.2.2.2.2.2.2.2.2.1, i64 y6.2.2.2.2.2.2.2.2.2.2.2.2.2.2.2.2.2.2.2.2.1, i64 y6.2.2.2.2.2.2.2.2.2.2.2.2.2.2.2.2.2.2.2.2.2.1, i64 y6.2.2.2.2.2.2.2.2.2.2.2.2.2.2.2.2.2.2.2.2.2.2.1, .row 4 (o4).length, .row 12 ([] : List T_api_Alt).length, i64 y6.2.2.2.2.2.2.2.2.2.2.2.2.2.2.2.2.2.2.2.2.2.2.2.1, bo y6.2.2.2.2.2.2.2.2.2.2.2.2.2.2.2.2.2.2.2.2.2.2.2.2], .row 3 1 (encL (eInt .i64) o1), .blk 123 [.row 3 (o2.l).length, i64 o2.most], .row 3 1 (encL (eInt .i64) o2.l), .row 3 1 (encL (eInt .i64) o4), .row 47 5 (encL T_api_Alt.enc o5), .ghost (gv 0) (.ptr 0 0), .ghost (gv 1) (.row 1 0), .ghost (gv 2) (.ptr 2 0), .ghost (gv 3) (.undef), .ghost (gv 4) (.undef), .ghost (gv 5) (.undef), .row 47 5 (encL T_api_Alt.enc ([]))]⟩) (by kernel_rfl) (At.rN hR [0, 1, 2, 3, 4, 5, 12]))
    · refine At.seqJ (S := Bool) (fun s => ⟨[(0, .ptr 0 0), (4, .ptr 12 0), (6, i64 y2), (7, .row 5 (o5).length), (27, i64 p1.Op), (34, bo s)], [.blk 81 [lv T_api_Ins.enc o0_0, lv T_api_Def.enc o0_1, lv T_api_Chan.enc o0_2, i64 o0_3, i64 o0_4, i64 o0_5, i64 o0_6, .row 1 (o1).length, i64 o0_8, i64 o0_9, i64 o0_10, i64 o0_11, i64 o0_12, i64 o0_13, i64 o0_14, lv T_api_Alt.enc o0_15, .ptr 2 0, i64 o0_17, i64 o0_18, i64 o0_19, i64 o0_20, i64 o0_21, i64 o0_22, i64 o0_23, i64 o0_24, .row 4 (o4).length, .d (.list true 0 []), i64 o0_27, bo o0_28], .row 3 1 (encL (eInt .i64) o1), .blk 123 [.row 3 (o2.l).length, i64 o2.most], .row 3 1 (encL (eInt .i64) o2.l), .row 3 1 (encL (eInt .i64) o4), .row 47 5 (encL T_api_Alt.enc o5), .ghost (gv 0) (.ptr 0 0), .ghost (gv 1) (.row 1 0), .ghost (gv 2) (.ptr 2 0), .ghost (gv 3) (.row 3 0), .ghost (gv 4) (.row 4 0), .ghost (gv 5) (.row 5 0), .blk 50 (T_api_Ins.pvs p1)]⟩) (fun s => F_run_runner_ends_J2 p1 o0_0 o0_1 o0_2 o0_3 o0_4 o0_5 o0_6 o0_8 o0_9 o0_10 o0_11 o0_12 o0_13 o0_14 o0_15 o0_17 o0_18 o0_19 o0_20 o0_21 o0_22 o0_23 o0_24 o0_27 o0_28 o2 o1 o4 o5 y2 s = some r) ?_ ?_
      · refine At.sR [0, 4, 6, 7, 27, 34] [0, 1, 2, 3, 4, 5, 6, 7, 8, 9, 10, 11, 12] [] ?_
        refine At.cd h (fun b64 h => ?_) (fun b64 h => ?_)
        · refine At.skip (fun _ _ i => ⟨(p1.Op == 4), h, i.en [] [0, 4, 6, 7, 27, 34] [0, 1, 2, 3, 4, 5, 6, 7, 8, 9, 10, 11, 12]⟩)
        · exact At.rK [0, 4, 6, 7, 27, 34] [0, 1, 2, 3, 4, 5, 6, 7, 8, 9, 10, 11, 12] [] fun _ _ i => ⟨(p1.Op == 12), h, i⟩
      · intro x8 h
        refine At.cd h (fun b9 h => ?_) (fun b9 h => ?_)
        · refine At.seq ?_
          refine At.eds [.ownO 0 26 47 5] (st' := ⟨[(0, .ptr 0 0), (4, .ptr 12 0), (6, i64 y2), (7, .row 5 (o5).length), (27, i64 p1.Op), (34, bo x8)], [.blk 81 [lv T_api_Ins.enc o0_0, lv T_api_Def.enc o0_1, lv T_api_Chan.enc o0_2, i64 o0_3, i64 o0_4, i64 o0_5, i64 o0_6, .row 1 (o1).length, i64 o0_8, i64 o0_9, i64 o0_10, i64 o0_11, i64 o0_12, i64 o0_13, i64 o0_14, lv T_api_Alt.enc o0_15, .ptr 2 0, i64 o0_17, i64 o0_18, i64 o0_19, i64 o0_20, i64 o0_21, i64 o0_22, i64 o0_23, i64 o0_24, .row 4 (o4).length, .row 13 ([] : List T_api_Alt).length, i64 o0_27, bo o0_28], .row 3 1 (encL (eInt .i64) o1), .blk 123 [.row 3 (o2.l).length, i64 o2.most], .row 3 1 (encL (eInt .i64) o2.l), .row 3 1 (encL (eInt .i64) o4), .row 47 5 (encL T_api_Alt.enc o5), .ghost (gv 0) (.ptr 0 0), .ghost (gv 1) (.row 1 0), .ghost (gv 2) (.ptr 2 0), .ghost (gv 3) (.row 3 0), .ghost (gv 4) (.row 4 0), .ghost (gv 5) (.row 5 0), .blk 50 (T_api_Ins.pvs p1), .row 47 5 (encL T_api_Alt.enc ([]))]⟩) (by kernel_rfl) ?_
          obtain ⟨y11, hy11, h⟩ := bs h
          refine At.dG 0 [0, 4, 6] [0, 1, 2, 3, 4, 5, 6, 7, 8, 9, 10, 11, 13, 12] [cT 5 6 [0, 1, 2, 3, 4, 13] (C_run_runner_take o0_0 o0_1 o0_2 o0_3 o0_4 o0_5 o0_6 o0_8 o0_9 o0_10 o0_11 o0_12 o0_13 o0_14 o0_15 o0_17 o0_18 o0_19 o0_20 o0_21 o0_22 o0_23 o0_24 o0_27 o0_28 o2 o1 o4 ([] : List T_api_Alt) y11 hy11)] (norm ?_)
          refine At.sR [0, 4, 6, 8] [0, 1, 2, 3, 4, 5, 6, 7, 8, 9, 10, 11, 12, 13] [] ?_
          refine At.seqJ (S := Int) (fun s => ⟨[(0, .ptr 0 0), (6, i64 y2), (8, i64 s)], [.blk 81 [lv T_api_Ins.enc o0_0, lv T_api_Def.enc o0_1, lv T_api_Chan.enc o0_2, i64 o0_3, i64 o0_4, i64 o0_5, i64 o0_6, .row 1 (o1).length, i64 o0_8, i64 o0_9, i64 o0_10, i64 o0_11, i64 o0_12, i64 o0_13, i64 o0_14, lv T_api_Alt.enc o0_15, .ptr 2 0, i64 o0_17, i64 o0_18, i64 o0_19, i64 o0_20, i64 o0_21, i64 y11.1, i64 p1.A, i64 o0_24, .row 4 (o4).length, .row 12 ([] : List T_api_Alt).length, i64 o0_27, bo o0_28], .row 3 1 (encL (eInt .i64) o1), .blk 123 [.row 3 (y11.2.l).length, i64 y11.2.most], .row 3 1 (encL (eInt .i64) y11.2.l), .row 3 1 (encL (eInt .i64) o4), .row 47 5 (encL T_api_Alt.enc o5), .ghost (gv 0) (.ptr 0 0), .ghost (gv 1) (.row 1 0), .ghost (gv 2) (.ptr 2 0), .ghost (gv 3) (.undef), .ghost (gv 4) (.row 4 0), .ghost (gv 5) (.row 5 0), .row 47 5 (encL T_api_Alt.enc ([]))]⟩) (fun s => F_run_runner_ends_J3 p1 o0_0 o0_1 o0_2 o0_3 o0_4 o0_5 o0_6 o0_8 o0_9 o0_10 o0_11 o0_12 o0_13 o0_14 o0_15 o0_17 o0_18 o0_19 o0_20 o0_21 o0_24 o0_27 o0_28 o1 o4 y2 y11 s = some r) ?_ ?_
          · refine At.sR [0, 6, 8, 51] [0, 1, 2, 3, 4, 5, 6, 7, 8, 9, 10, 11, 12] [] ?_
            refine At.cd h (fun b15 h => ?_) (fun b15 h => ?_)
            · exact At.rK [0, 6, 8] [0, 1, 2, 3, 4, 5, 6, 7, 8, 9, 10, 11, 12] [] fun _ _ i => ⟨3, h, i⟩
            · refine At.nR [0, 6, 8] [0, 1, 2, 3, 4, 5, 6, 7, 8, 9, 10, 11, 12] ?_
              refine At.skip (fun _ _ i => ⟨2, h, i.en [] [0, 6, 8] [0, 1, 2, 3, 4, 5, 6, 7, 8, 9, 10, 11, 12]⟩)
          · intro x13 h
            obtain ⟨y14, hy14, h⟩ := bs h
            obtain rfl := sq h
            refine At.rG [] [0, 1, 2, 3, 4, 5, 6, 7, 8, 9, 10, 11, 12] [cT 3 6 [0, 1, 2, 3, 4, 12] (C_run_runner_end x13 y2 o0_0 o0_1 o0_2 o0_3 o0_4 o0_5 o0_6 o0_8 o0_9 o0_10 o0_11 o0_12 o0_13 o0_14 o0_15 o0_17 o0_18 o0_19 o0_20 o0_21 y11.1 p1.A o0_24 o0_27 o0_28 y11.2 o1 o4 ([] : List T_api_Alt) y14 hy14)] (edq (l := [.hideG 10, .hideG 11]) (ks := []) (ρ := [0, 1, 2, 3, 4, 5, 6, 7, 8, 9, 10, 11, 12]) (st' := ⟨[], [.blk 81 [lv T_api_Ins.enc y14.1, lv T_api_Def.enc y14.2.1, lv T_api_Chan.enc y14.2.2.1, i64 y14.2.2.2.1, i64 y14.2.2.2.2.1, i64 y14.2.2.2.2.2.1, i64 y14.2.2.2.2.2.2.1, .row 1 (o1).length, i64 y14.2.2.2.2.2.2.2.1, i64 y14.2.2.2.2.2.2.2.2.1, i64 y14.2.2.2.2.2.2.2.2.2.1, i64 y14.2.2.2.2.2.2.2.2.2.2.1, i64 y14.2.2.2.2.2.2.2.2.2.2.2.1, i64 y14.2.2.2.2.2.2.2.2.2.2.2.2.1, i64 y14.2.2.2.2.2.2.2.2.2.2.2.2.2.1, lv T_api_Alt.enc y14.2.2.2.2.2.2.2.2.2.2.2.2.2.2.1, .ptr 2 0, i64 y14.2.2.2.2.2.2.2.2.2.2.2.2.2.2.2.1, i64 y14.2.2.2.2.2.2.2.2.2.2.2.2.2.2.2.2.1, i64 y14.2.2.2.2.2.2.2.2.2.2.2.2.2.2.2.2.2.1, i64 y14.2.2.2.2.2.2.2.2.2.2.2.2.2.2.2.2.2.2.1, i64 y14.2.2.2.2.2.2.2.2.2.2.2.2.2.2.2.2.2.2.2.1, i64 y14.2.2.2.2.2.2.2.2.2.2.2.2.2.2.2.2.2.2.2.2.1, i64 y14.2.2.2.2.2.2.2.2.2.2.2.2.2.2.2.2.2.2.2.2.2.1, i64 y14.2.2.2.2.2.2.2.2.2.2.2.2.2.2.2.2.2.2.2.2.2.2.1, .row 4 (o4).length, .row 12 ([] : List T_api_Alt).length, i64 y14.2.2.2.2.2.2.2.2.2.2.2.2.2.2.2.2.2.2.2.2.2.2.2.1, bo y14.2.2.2.2.2.2.2.2.2.2.2.2.2.2.2.2.2.2.2.2.2.2.2.2], .row 3 1 (encL (eInt .i64) o1), .blk 123 [.row 3 (y11.2.l).length, i64 y11.2.most], .row 3 1 (encL (eInt .i64) y11.2.l), .row 3 1 (encL (eInt .i64) o4), .row 47 5 (encL T_api_Alt.enc o5), .ghost (gv 0) (.ptr 0 0), .ghost (gv 1) (.row 1 0), .ghost (gv 2) (.ptr 2 0), .ghost (gv 3) (.undef), .ghost (gv 4) (.undef), .ghost (gv 5) (.undef), .row 47 5 (encL T_api_Alt.enc ([]))]⟩) (by kernel_rfl) (At.rN hR [0, 1, 2, 3, 4, 5, 12]))
        · refine At.sR [0, 4, 6, 7, 27, 56] [0, 1, 2, 3, 4, 5, 6, 7, 8, 9, 10, 11, 12] [] ?_
          refine At.cd h (fun b16 h => ?_) (fun b16 h => ?_)
          · refine At.seq ?_
            refine At.eds [.ownO 0 26 47 5] (st' := ⟨[(0, .ptr 0 0), (4, .ptr 12 0), (6, i64 y2), (7, .row 5 (o5).length), (27, i64 p1.Op), (56, bo (p1.Op == 10))], [.blk 81 [lv T_api_Ins.enc o0_0, lv T_api_Def.enc o0_1, lv T_api_Chan.enc o0_2, i64 o0_3, i64 o0_4, i64 o0_5, i64 o0_6, .row 1 (o1).length, i64 o0_8, i64 o0_9, i64 o0_10, i64 o0_11, i64 o0_12, i64 o0_13, i64 o0_14, lv T_api_Alt.enc o0_15, .ptr 2 0, i64 o0_17, i64 o0_18, i64 o0_19, i64 o0_20, i64 o0_21, i64 o0_22, i64 o0_23, i64 o0_24, .row 4 (o4).length, .row 13 ([] : List T_api_Alt).length, i64 o0_27, bo o0_28], .row 3 1 (encL (eInt .i64) o1), .blk 123 [.row 3 (o2.l).length, i64 o2.most], .row 3 1 (encL (eInt .i64) o2.l), .row 3 1 (encL (eInt .i64) o4), .row 47 5 (encL T_api_Alt.enc o5), .ghost (gv 0) (.ptr 0 0), .ghost (gv 1) (.row 1 0), .ghost (gv 2) (.ptr 2 0), .ghost (gv 3) (.row 3 0), .ghost (gv 4) (.row 4 0), .ghost (gv 5) (.row 5 0), .blk 50 (T_api_Ins.pvs p1), .row 47 5 (encL T_api_Alt.enc ([]))]⟩) (by kernel_rfl) ?_
            obtain ⟨y18, hy18, h⟩ := bs h
            refine At.rG [0, 6] [0, 1, 2, 3, 4, 5, 6, 7, 8, 9, 10, 11, 13] [cT 2 6 [0, 1, 2, 3, 4, 13] (C_run_runner_take o0_0 o0_1 o0_2 o0_3 o0_4 o0_5 o0_6 o0_8 o0_9 o0_10 o0_11 o0_12 o0_13 o0_14 o0_15 o0_17 o0_18 o0_19 o0_20 o0_21 o0_22 o0_23 o0_24 o0_27 o0_28 o2 o1 o4 ([] : List T_api_Alt) y18 hy18)] (norm ?_)
            obtain ⟨y20, hy20, h⟩ := bs h
            refine At.sR [0, 6] [0, 1, 2, 3, 4, 5, 6, 7, 8, 9, 10, 11, 12] [cT 2 6 [0, 1, 2, 3, 4, 12] (C_run_runner_take o0_0 o0_1 o0_2 o0_3 o0_4 o0_5 o0_6 o0_8 o0_9 o0_10 o0_11 o0_12 o0_13 o0_14 o0_15 o0_17 o0_18 o0_19 o0_20 o0_21 y18.1 o0_23 o0_24 o0_27 o0_28 y18.2 o1 o4 ([] : List T_api_Alt) y20 hy20)] ?_
            obtain ⟨y22, hy22, h⟩ := bs h
            refine At.sR [0, 6, 77] [0, 1, 2, 3, 4, 5, 6, 7, 8, 9, 10, 11, 12] [cT 6 6 [0, 1, 2, 3, 4, 12] (C_run_runner_none y20.1 o0_0 o0_1 o0_2 o0_3 o0_4 o0_5 o0_6 o0_8 o0_9 o0_10 o0_11 o0_12 o0_13 o0_14 o0_15 o0_17 o0_18 o0_19 o0_20 y20.1 y18.1 o0_23 o0_24 o0_27 o0_28 y20.2 o1 o4 ([] : List T_api_Alt) y22 hy22)] ?_
            refine At.cd h (fun b23 h => ?_) (fun b23 h => ?_)
            · obtain ⟨y24, hy24, h⟩ := bs h
              obtain rfl := sq h
              refine At.rG [] [0, 1, 2, 3, 4, 5, 6, 7, 8, 9, 10, 11, 12] [cT 2 6 [0, 1, 2, 3, 4, 12] (C_run_runner_end 4 y2 y22.2.1 y22.2.2.1 y22.2.2.2.1 y22.2.2.2.2.1 y22.2.2.2.2.2.1 y22.2.2.2.2.2.2.1 y22.2.2.2.2.2.2.2.1 y22.2.2.2.2.2.2.2.2.1 y22.2.2.2.2.2.2.2.2.2.1 y22.2.2.2.2.2.2.2.2.2.2.1 y22.2.2.2.2.2.2.2.2.2.2.2.1 y22.2.2.2.2.2.2.2.2.2.2.2.2.1 y22.2.2.2.2.2.2.2.2.2.2.2.2.2.1 y22.2.2.2.2.2.2.2.2.2.2.2.2.2.2.1 y22.2.2.2.2.2.2.2.2.2.2.2.2.2.2.2.1 y22.2.2.2.2.2.2.2.2.2.2.2.2.2.2.2.2.1 y22.2.2.2.2.2.2.2.2.2.2.2.2.2.2.2.2.2.1 y22.2.2.2.2.2.2.2.2.2.2.2.2.2.2.2.2.2.2.1 y22.2.2.2.2.2.2.2.2.2.2.2.2.2.2.2.2.2.2.2.1 y22.2.2.2.2.2.2.2.2.2.2.2.2.2.2.2.2.2.2.2.2.1 y22.2.2.2.2.2.2.2.2.2.2.2.2.2.2.2.2.2.2.2.2.2.1 y22.2.2.2.2.2.2.2.2.2.2.2.2.2.2.2.2.2.2.2.2.2.2.1 y22.2.2.2.2.2.2.2.2.2.2.2.2.2.2.2.2.2.2.2.2.2.2.2.1 y22.2.2.2.2.2.2.2.2.2.2.2.2.2.2.2.2.2.2.2.2.2.2.2.2.1 y22.2.2.2.2.2.2.2.2.2.2.2.2.2.2.2.2.2.2.2.2.2.2.2.2.2.1 y20.2 o1 y22.2.2.2.2.2.2.2.2.2.2.2.2.2.2.2.2.2.2.2.2.2.2.2.2.2.2.1 y22.2.2.2.2.2.2.2.2.2.2.2.2.2.2.2.2.2.2.2.2.2.2.2.2.2.2.2 y24 hy24)] (edq (l := [.hideG 11]) (ks := []) (ρ := [0, 1, 2, 3, 4, 5, 6, 7, 8, 9, 10, 11, 12]) (st' := ⟨[], [.blk 81 [lv T_api_Ins.enc y24.1, lv T_api_Def.enc y24.2.1, lv T_api_Chan.enc y24.2.2.1, i64 y24.2.2.2.1, i64 y24.2.2.2.2.1, i64 y24.2.2.2.2.2.1, i64 y24.2.2.2.2.2.2.1, .row 1 (o1).length, i64 y24.2.2.2.2.2.2.2.1, i64 y24.2.2.2.2.2.2.2.2.1, i64 y24.2.2.2.2.2.2.2.2.2.1, i64 y24.2.2.2.2.2.2.2.2.2.2.1, i64 y24.2.2.2.2.2.2.2.2.2.2.2.1, i64 y24.2.2.2.2.2.2.2.2.2.2.2.2.1, i64 y24.2.2.2.2.2.2.2.2.2.2.2.2.2.1, lv T_api_Alt.enc y24.2.2.2.2.2.2.2.2.2.2.2.2.2.2.1, .ptr 2 0, i64 y24.2.2.2.2.2.2.2.2.2.2.2.2.2.2.2.1, i64 y24.2.2.2.2.2.2.2.2.2.2.2.2.2.2.2.2.1, i64 y24.2.2.2.2.2.2.2.2.2.2.2.2.2.2.2.2.2.1, i64 y24.2.2.2.2.2.2.2.2.2.2.2.2.2.2.2.2.2.2.1, i64 y24.2.2.2.2.2.2.2.2.2.2.2.2.2.2.2.2.2.2.2.1, i64 y24.2.2.2.2.2.2.2.2.2.2.2.2.2.2.2.2.2.2.2.2.1, i64 y24.2.2.2.2.2.2.2.2.2.2.2.2.2.2.2.2.2.2.2.2.2.1, i64 y24.2.2.2.2.2.2.2.2.2.2.2.2.2.2.2.2.2.2.2.2.2.2.1, .row 4 (y22.2.2.2.2.2.2.2.2.2.2.2.2.2.2.2.2.2.2.2.2.2.2.2.2.2.2.1).length, .row 12 (y22.2.2.2.2.2.2.2.2.2.2.2.2.2.2.2.2.2.2.2.2.2.2.2.2.2.2.2).length, i64 y24.2.2.2.2.2.2.2.2.2.2.2.2.2.2.2.2.2.2.2.2.2.2.2.1, bo y24.2.2.2.2.2.2.2.2.2.2.2.2.2.2.2.2.2.2.2.2.2.2.2.2], .row 3 1 (encL (eInt .i64) o1), .blk 123 [.row 3 (y20.2.l).length, i64 y20.2.most], .row 3 1 (encL (eInt .i64) y20.2.l), .row 3 1 (encL (eInt .i64) y22.2.2.2.2.2.2.2.2.2.2.2.2.2.2.2.2.2.2.2.2.2.2.2.2.2.2.1), .row 47 5 (encL T_api_Alt.enc o5), .ghost (gv 0) (.ptr 0 0), .ghost (gv 1) (.row 1 0), .ghost (gv 2) (.ptr 2 0), .ghost (gv 3) (.undef), .ghost (gv 4) (.undef), .ghost (gv 5) (.undef), .row 47 5 (encL T_api_Alt.enc y22.2.2.2.2.2.2.2.2.2.2.2.2.2.2.2.2.2.2.2.2.2.2.2.2.2.2.2)]⟩) (by kernel_rfl) (At.rN hR [0, 1, 2, 3, 4, 5, 12]))
            · refine At.nR [] [0, 1, 2, 3, 4, 5, 6, 7, 8, 9, 10, 11, 12] ?_
              obtain rfl := sq h
              refine At.skip (edq (l := [.hideG 11]) (ks := []) (ρ := [0, 1, 2, 3, 4, 5, 6, 7, 8, 9, 10, 11, 12]) (st' := ⟨[], [.blk 81 [lv T_api_Ins.enc y22.2.1, lv T_api_Def.enc y22.2.2.1, lv T_api_Chan.enc y22.2.2.2.1, i64 y22.2.2.2.2.1, i64 y22.2.2.2.2.2.1, i64 y22.2.2.2.2.2.2.1, i64 y22.2.2.2.2.2.2.2.1, .row 1 (o1).length, i64 y22.2.2.2.2.2.2.2.2.1, i64 y22.2.2.2.2.2.2.2.2.2.1, i64 y22.2.2.2.2.2.2.2.2.2.2.1, i64 y22.2.2.2.2.2.2.2.2.2.2.2.1, i64 y22.2.2.2.2.2.2.2.2.2.2.2.2.1, i64 y22.2.2.2.2.2.2.2.2.2.2.2.2.2.1, i64 y22.2.2.2.2.2.2.2.2.2.2.2.2.2.2.1, lv T_api_Alt.enc y22.2.2.2.2.2.2.2.2.2.2.2.2.2.2.2.1, .ptr 2 0, i64 y22.2.2.2.2.2.2.2.2.2.2.2.2.2.2.2.2.1, i64 y22.2.2.2.2.2.2.2.2.2.2.2.2.2.2.2.2.2.1, i64 y22.2.2.2.2.2.2.2.2.2.2.2.2.2.2.2.2.2.2.1, i64 y22.2.2.2.2.2.2.2.2.2.2.2.2.2.2.2.2.2.2.2.1, i64 y22.2.2.2.2.2.2.2.2.2.2.2.2.2.2.2.2.2.2.2.2.1, i64 y22.2.2.2.2.2.2.2.2.2.2.2.2.2.2.2.2.2.2.2.2.2.1, i64 y22.2.2.2.2.2.2.2.2.2.2.2.2.2.2.2.2.2.2.2.2.2.2.1, i64 y22.2.2.2.2.2.2.2.2.2.2.2.2.2.2.2.2.2.2.2.2.2.2.2.1, .row 4 (y22.2.2.2.2.2.2.2.2.2.2.2.2.2.2.2.2.2.2.2.2.2.2.2.2.2.2.1).length, .row 12 (y22.2.2.2.2.2.2.2.2.2.2.2.2.2.2.2.2.2.2.2.2.2.2.2.2.2.2.2).length, i64 y22.2.2.2.2.2.2.2.2.2.2.2.2.2.2.2.2.2.2.2.2.2.2.2.2.1, bo y22.2.2.2.2.2.2.2.2.2.2.2.2.2.2.2.2.2.2.2.2.2.2.2.2.2.1], .row 3 1 (encL (eInt .i64) o1), .blk 123 [.row 3 (y20.2.l).length, i64 y20.2.most], .row 3 1 (encL (eInt .i64) y20.2.l), .row 3 1 (encL (eInt .i64) y22.2.2.2.2.2.2.2.2.2.2.2.2.2.2.2.2.2.2.2.2.2.2.2.2.2.2.1), .row 47 5 (encL T_api_Alt.enc o5), .ghost (gv 0) (.ptr 0 0), .ghost (gv 1) (.row 1 0), .ghost (gv 2) (.ptr 2 0), .ghost (gv 3) (.undef), .ghost (gv 4) (.undef), .ghost (gv 5) (.undef), .row 47 5 (encL T_api_Alt.enc y22.2.2.2.2.2.2.2.2.2.2.2.2.2.2.2.2.2.2.2.2.2.2.2.2.2.2.2)]⟩) (by kernel_rfl) (At.rN hR [0, 1, 2, 3, 4, 5, 12]))
          · refine At.sR [0, 4, 6, 7, 27, 81] [0, 1, 2, 3, 4, 5, 6, 7, 8, 9, 10, 11, 12] [] ?_
            refine At.cd h (fun b25 h => ?_) (fun b25 h => ?_)
            · refine At.seq ?_
              refine At.eds [.ownO 0 26 47 5] (st' := ⟨[(0, .ptr 0 0), (4, .ptr 12 0), (6, i64 y2), (7, .row 5 (o5).length), (27, i64 p1.Op), (81, bo (p1.Op == 11))], [.blk 81 [lv T_api_Ins.enc o0_0, lv T_api_Def.enc o0_1, lv T_api_Chan.enc o0_2, i64 o0_3, i64 o0_4, i64 o0_5, i64 o0_6, .row 1 (o1).length, i64 o0_8, i64 o0_9, i64 o0_10, i64 o0_11, i64 o0_12, i64 o0_13, i64 o0_14, lv T_api_Alt.enc o0_15, .ptr 2 0, i64 o0_17, i64 o0_18, i64 o0_19, i64 o0_20, i64 o0_21, i64 o0_22, i64 o0_23, i64 o0_24, .row 4 (o4).length, .row 13 ([] : List T_api_Alt).length, i64 o0_27, bo o0_28], .row 3 1 (encL (eInt .i64) o1), .blk 123 [.row 3 (o2.l).length, i64 o2.most], .row 3 1 (encL (eInt .i64) o2.l), .row 3 1 (encL (eInt .i64) o4), .row 47 5 (encL T_api_Alt.enc o5), .ghost (gv 0) (.ptr 0 0), .ghost (gv 1) (.row 1 0), .ghost (gv 2) (.ptr 2 0), .ghost (gv 3) (.row 3 0), .ghost (gv 4) (.row 4 0), .ghost (gv 5) (.row 5 0), .blk 50 (T_api_Ins.pvs p1), .row 47 5 (encL T_api_Alt.enc ([]))]⟩) (by kernel_rfl) ?_
              obtain ⟨y27, hy27, h⟩ := bs h
              refine At.dG 0 [0, 6] [0, 1, 2, 3, 4, 5, 6, 7, 8, 9, 10, 11, 13] [cT 5 6 [0, 1, 2, 3, 4, 13] (C_run_runner_take o0_0 o0_1 o0_2 o0_3 o0_4 o0_5 o0_6 o0_8 o0_9 o0_10 o0_11 o0_12 o0_13 o0_14 o0_15 o0_17 o0_18 o0_19 o0_20 o0_21 o0_22 o0_23 o0_24 o0_27 o0_28 o2 o1 o4 ([] : List T_api_Alt) y27 hy27)] (norm ?_)
              obtain ⟨y29, hy29, h⟩ := bs h
              refine At.sR [0, 6, 102] [0, 1, 2, 3, 4, 5, 6, 7, 8, 9, 10, 11, 12] [cT 6 6 [0, 1, 2, 3, 4, 12] (C_run_runner_none y27.1 o0_0 o0_1 o0_2 o0_3 o0_4 o0_5 o0_6 o0_8 o0_9 o0_10 o0_11 o0_12 o0_13 o0_14 o0_15 o0_17 o0_18 o0_19 o0_20 y27.1 o0_22 p1.A o0_24 o0_27 o0_28 y27.2 o1 o4 ([] : List T_api_Alt) y29 hy29)] ?_
              refine At.cd h (fun b30 h => ?_) (fun b30 h => ?_)
              · obtain ⟨y31, hy31, h⟩ := bs h
                obtain rfl := sq h
                refine At.rG [] [0, 1, 2, 3, 4, 5, 6, 7, 8, 9, 10, 11, 12] [cT 2 6 [0, 1, 2, 3, 4, 12] (C_run_runner_end 5 y2 y29.2.1 y29.2.2.1 y29.2.2.2.1 y29.2.2.2.2.1 y29.2.2.2.2.2.1 y29.2.2.2.2.2.2.1 y29.2.2.2.2.2.2.2.1 y29.2.2.2.2.2.2.2.2.1 y29.2.2.2.2.2.2.2.2.2.1 y29.2.2.2.2.2.2.2.2.2.2.1 y29.2.2.2.2.2.2.2.2.2.2.2.1 y29.2.2.2.2.2.2.2.2.2.2.2.2.1 y29.2.2.2.2.2.2.2.2.2.2.2.2.2.1 y29.2.2.2.2.2.2.2.2.2.2.2.2.2.2.1 y29.2.2.2.2.2.2.2.2.2.2.2.2.2.2.2.1 y29.2.2.2.2.2.2.2.2.2.2.2.2.2.2.2.2.1 y29.2.2.2.2.2.2.2.2.2.2.2.2.2.2.2.2.2.1 y29.2.2.2.2.2.2.2.2.2.2.2.2.2.2.2.2.2.2.1 y29.2.2.2.2.2.2.2.2.2.2.2.2.2.2.2.2.2.2.2.1 y29.2.2.2.2.2.2.2.2.2.2.2.2.2.2.2.2.2.2.2.2.1 y29.2.2.2.2.2.2.2.2.2.2.2.2.2.2.2.2.2.2.2.2.2.1 y29.2.2.2.2.2.2.2.2.2.2.2.2.2.2.2.2.2.2.2.2.2.2.1 y29.2.2.2.2.2.2.2.2.2.2.2.2.2.2.2.2.2.2.2.2.2.2.2.1 y29.2.2.2.2.2.2.2.2.2.2.2.2.2.2.2.2.2.2.2.2.2.2.2.2.1 y29.2.2.2.2.2.2.2.2.2.2.2.2.2.2.2.2.2.2.2.2.2.2.2.2.2.1 y27.2 o1 y29.2.2.2.2.2.2.2.2.2.2.2.2.2.2.2.2.2.2.2.2.2.2.2.2.2.2.1 y29.2.2.2.2.2.2.2.2.2.2.2.2.2.2.2.2.2.2.2.2.2.2.2.2.2.2.2 y31 hy31)] (edq (l := [.hideG 11]) (ks := []) (ρ := [0, 1, 2, 3, 4, 5, 6, 7, 8, 9, 10, 11, 12]) (st' := ⟨[], [.blk 81 [lv T_api_Ins.enc y31.1, lv T_api_Def.enc y31.2.1, lv T_api_Chan.enc y31.2.2.1, i64 y31.2.2.2.1, i64 y31.2.2.2.2.1, i64 y31.2.2.2.2.2.1, i64 y31.2.2.2.2.2.2.1, .row 1 (o1).length, i64 y31.2.2.2.2.2.2.2.1, i64 y31.2.2.2.2.2.2.2.2.1, i64 y31.2.2.2.2.2.2.2.2.2.1, i64 y31.2.2.2.2.2.2.2.2.2.2.1, i64 y31.2.2.2.2.2.2.2.2.2.2.2.1, i64 y31.2.2.2.2.2.2.2.2.2.2.2.2.1, i64 y31.2.2.2.2.2.2.2.2.2.2.2.2.2.1, lv T_api_Alt.enc y31.2.2.2.2.2.2.2.2.2.2.2.2.2.2.1, .ptr 2 0, i64 y31.2.2.2.2.2.2.2.2.2.2.2.2.2.2.2.1, i64 y31.2.2.2.2.2.2.2.2.2.2.2.2.2.2.2.2.1, i64 y31.2.2.2.2.2.2.2.2.2.2.2.2.2.2.2.2.2.1, i64 y31.2.2.2.2.2.2.2.2.2.2.2.2.2.2.2.2.2.2.1, i64 y31.2.2.2.2.2.2.2.2.2.2.2.2.2.2.2.2.2.2.2.1, i64 y31.2.2.2.2.2.2.2.2.2.2.2.2.2.2.2.2.2.2.2.2.1, i64 y31.2.2.2.2.2.2.2.2.2.2.2.2.2.2.2.2.2.2.2.2.2.1, i64 y31.2.2.2.2.2.2.2.2.2.2.2.2.2.2.2.2.2.2.2.2.2.2.1, .row 4 (y29.2.2.2.2.2.2.2.2.2.2.2.2.2.2.2.2.2.2.2.2.2.2.2.2.2.2.1).length, .row 12 (y29.2.2.2.2.2.2.2.2.2.2.2.2.2.2.2.2.2.2.2.2.2.2.2.2.2.2.2).length, i64 y31.2.2.2.2.2.2.2.2.2.2.2.2.2.2.2.2.2.2.2.2.2.2.2.1, bo y31.2.2.2.2.2.2.2.2.2.2.2.2.2.2.2.2.2.2.2.2.2.2.2.2], .row 3 1 (encL (eInt .i64) o1), .blk 123 [.row 3 (y27.2.l).length, i64 y27.2.most], .row 3 1 (encL (eInt .i64) y27.2.l), .row 3 1 (encL (eInt .i64) y29.2.2.2.2.2.2.2.2.2.2.2.2.2.2.2.2.2.2.2.2.2.2.2.2.2.2.1), .row 47 5 (encL T_api_Alt.enc o5), .ghost (gv 0) (.ptr 0 0), .ghost (gv 1) (.row 1 0), .ghost (gv 2) (.ptr 2 0), .ghost (gv 3) (.undef), .ghost (gv 4) (.undef), .ghost (gv 5) (.undef), .row 47 5 (encL T_api_Alt.enc y29.2.2.2.2.2.2.2.2.2.2.2.2.2.2.2.2.2.2.2.2.2.2.2.2.2.2.2)]⟩) (by kernel_rfl) (At.rN hR [0, 1, 2, 3, 4, 5, 12]))
              · refine At.nR [] [0, 1, 2, 3, 4, 5, 6, 7, 8, 9, 10, 11, 12] ?_
                obtain rfl := sq h
                refine At.skip (edq (l := [.hideG 11]) (ks := []) (ρ := [0, 1, 2, 3, 4, 5, 6, 7, 8, 9, 10, 11, 12]) (st' := ⟨[], [.blk 81 [lv T_api_Ins.enc y29.2.1, lv T_api_Def.enc y29.2.2.1, lv T_api_Chan.enc y29.2.2.2.1, i64 y29.2.2.2.2.1, i64 y29.2.2.2.2.2.1, i64 y29.2.2.2.2.2.2.1, i64 y29.2.2.2.2.2.2.2.1, .row 1 (o1).length, i64 y29.2.2.2.2.2.2.2.2.1, i64 y29.2.2.2.2.2.2.2.2.2.1, i64 y29.2.2.2.2.2.2.2.2.2.2.1, i64 y29.2.2.2.2.2.2.2.2.2.2.2.1, i64 y29.2.2.2.2.2.2.2.2.2.2.2.2.1, i64 y29.2.2.2.2.2.2.2.2.2.2.2.2.2.1, i64 y29.2.2.2.2.2.2.2.2.2.2.2.2.2.2.1, lv T_api_Alt.enc y29.2.2.2.2.2.2.2.2.2.2.2.2.2.2.2.1, .ptr 2 0, i64 y29.2.2.2.2.2.2.2.2.2.2.2.2.2.2.2.2.1, i64 y29.2.2.2.2.2.2.2.2.2.2.2.2.2.2.2.2.2.1, i64 y29.2.2.2.2.2.2.2.2.2.2.2.2.2.2.2.2.2.2.1, i64 y29.2.2.2.2.2.2.2.2.2.2.2.2.2.2.2.2.2.2.2.1, i64 y29.2.2.2.2.2.2.2.2.2.2.2.2.2.2.2.2.2.2.2.2.1, i64 y29.2.2.2.2.2.2.2.2.2.2.2.2.2.2.2.2.2.2.2.2.2.1, i64 y29.2.2.2.2.2.2.2.2.2.2.2.2.2.2.2.2.2.2.2.2.2.2.1, i64 y29.2.2.2.2.2.2.2.2.2.2.2.2.2.2.2.2.2.2.2.2.2.2.2.1, .row 4 (y29.2.2.2.2.2.2.2.2.2.2.2.2.2.2.2.2.2.2.2.2.2.2.2.2.2.2.1).length, .row 12 (y29.2.2.2.2.2.2.2.2.2.2.2.2.2.2.2.2.2.2.2.2.2.2.2.2.2.2.2).length, i64 y29.2.2.2.2.2.2.2.2.2.2.2.2.2.2.2.2.2.2.2.2.2.2.2.2.1, bo y29.2.2.2.2.2.2.2.2.2.2.2.2.2.2.2.2.2.2.2.2.2.2.2.2.2.1], .row 3 1 (encL (eInt .i64) o1), .blk 123 [.row 3 (y27.2.l).length, i64 y27.2.most], .row 3 1 (encL (eInt .i64) y27.2.l), .row 3 1 (encL (eInt .i64) y29.2.2.2.2.2.2.2.2.2.2.2.2.2.2.2.2.2.2.2.2.2.2.2.2.2.2.1), .row 47 5 (encL T_api_Alt.enc o5), .ghost (gv 0) (.ptr 0 0), .ghost (gv 1) (.row 1 0), .ghost (gv 2) (.ptr 2 0), .ghost (gv 3) (.undef), .ghost (gv 4) (.undef), .ghost (gv 5) (.undef), .row 47 5 (encL T_api_Alt.enc y29.2.2.2.2.2.2.2.2.2.2.2.2.2.2.2.2.2.2.2.2.2.2.2.2.2.2.2)]⟩) (by kernel_rfl) (At.rN hR [0, 1, 2, 3, 4, 5, 12]))
            · refine At.seqJ (S := Bool) (fun s => ⟨[(0, .ptr 0 0), (4, .ptr 12 0), (6, i64 y2), (7, .row 5 (o5).length), (27, i64 p1.Op), (106, bo s)], [.blk 81 [lv T_api_Ins.enc o0_0, lv T_api_Def.enc o0_1, lv T_api_Chan.enc o0_2, i64 o0_3, i64 o0_4, i64 o0_5, i64 o0_6, .row 1 (o1).length, i64 o0_8, i64 o0_9, i64 o0_10, i64 o0_11, i64 o0_12, i64 o0_13, i64 o0_14, lv T_api_Alt.enc o0_15, .ptr 2 0, i64 o0_17, i64 o0_18, i64 o0_19, i64 o0_20, i64 o0_21, i64 o0_22, i64 o0_23, i64 o0_24, .row 4 (o4).length, .d (.list true 0 []), i64 o0_27, bo o0_28], .row 3 1 (encL (eInt .i64) o1), .blk 123 [.row 3 (o2.l).length, i64 o2.most], .row 3 1 (encL (eInt .i64) o2.l), .row 3 1 (encL (eInt .i64) o4), .row 47 5 (encL T_api_Alt.enc o5), .ghost (gv 0) (.ptr 0 0), .ghost (gv 1) (.row 1 0), .ghost (gv 2) (.ptr 2 0), .ghost (gv 3) (.row 3 0), .ghost (gv 4) (.row 4 0), .ghost (gv 5) (.row 5 0), .blk 50 (T_api_Ins.pvs p1)]⟩) (fun s => F_run_runner_ends_J4 p1 o0_0 o0_1 o0_2 o0_3 o0_4 o0_5 o0_6 o0_8 o0_9 o0_10 o0_11 o0_12 o0_13 o0_14 o0_15 o0_17 o0_18 o0_19 o0_20 o0_21 o0_22 o0_23 o0_24 o0_27 o0_28 o2 o1 o4 o5 y2 s = some r) ?_ ?_
              · refine At.sR [0, 4, 6, 7, 27, 106] [0, 1, 2, 3, 4, 5, 6, 7, 8, 9, 10, 11, 12] [] ?_
                refine At.cd h (fun b63 h => ?_) (fun b63 h => ?_)
                · refine At.skip (fun _ _ i => ⟨(p1.Op == 13), h, i.en [] [0, 4, 6, 7, 27, 106] [0, 1, 2, 3, 4, 5, 6, 7, 8, 9, 10, 11, 12]⟩)
                · exact At.rK [0, 4, 6, 7, 27, 106] [0, 1, 2, 3, 4, 5, 6, 7, 8, 9, 10, 11, 12] [] fun _ _ i => ⟨(p1.Op == 15), h, i⟩
              · intro x33 h
                refine At.cd h (fun b34 h => ?_) (fun b34 h => ?_)
                · refine At.seq ?_
                  refine At.eds [.ownO 0 26 47 5] (st' := ⟨[(0, .ptr 0 0), (4, .ptr 12 0), (6, i64 y2), (7, .row 5 (o5).length), (27, i64 p1.Op), (106, bo x33)], [.blk 81 [lv T_api_Ins.enc o0_0, lv T_api_Def.enc o0_1, lv T_api_Chan.enc o0_2, i64 o0_3, i64 o0_4, i64 o0_5, i64 o0_6, .row 1 (o1).length, i64 o0_8, i64 o0_9, i64 o0_10, i64 o0_11, i64 o0_12, i64 o0_13, i64 o0_14, lv T_api_Alt.enc o0_15, .ptr 2 0, i64 o0_17, i64 o0_18, i64 o0_19, i64 o0_20, i64 o0_21, i64 o0_22, i64 o0_23, i64 o0_24, .row 4 (o4).length, .row 13 ([] : List T_api_Alt).length, i64 o0_27, bo o0_28], .row 3 1 (encL (eInt .i64) o1), .blk 123 [.row 3 (o2.l).length, i64 o2.most], .row 3 1 (encL (eInt .i64) o2.l), .row 3 1 (encL (eInt .i64) o4), .row 47 5 (encL T_api_Alt.enc o5), .ghost (gv 0) (.ptr 0 0), .ghost (gv 1) (.row 1 0), .ghost (gv 2) (.ptr 2 0), .ghost (gv 3) (.row 3 0), .ghost (gv 4) (.row 4 0), .ghost (gv 5) (.row 5 0), .blk 50 (T_api_Ins.pvs p1), .row 47 5 (encL T_api_Alt.enc ([]))]⟩) (by kernel_rfl) ?_
                  obtain ⟨y36, hy36, h⟩ := bs h
                  refine At.rG [0, 4, 6] [0, 1, 2, 3, 4, 5, 6, 7, 8, 9, 10, 11, 13, 12] [cT 2 6 [0, 1, 2, 3, 4, 13] (C_run_runner_take o0_0 o0_1 o0_2 o0_3 o0_4 o0_5 o0_6 o0_8 o0_9 o0_10 o0_11 o0_12 o0_13 o0_14 o0_15 o0_17 o0_18 o0_19 o0_20 o0_21 o0_22 o0_23 o0_24 o0_27 o0_28 o2 o1 o4 ([] : List T_api_Alt) y36 hy36)] (norm ?_)
                  refine At.sR [0, 4, 6, 9] [0, 1, 2, 3, 4, 5, 6, 7, 8, 9, 10, 11, 12, 13] [] ?_
                  refine At.seqJ (S := Int) (fun s => ⟨[(0, .ptr 0 0), (6, i64 y2), (9, i64 s)], [.blk 81 [lv T_api_Ins.enc o0_0, lv T_api_Def.enc o0_1, lv T_api_Chan.enc o0_2, i64 o0_3, i64 o0_4, i64 o0_5, i64 o0_6, .row 1 (o1).length, i64 o0_8, i64 o0_9, i64 o0_10, i64 o0_11, i64 o0_12, i64 o0_13, i64 o0_14, lv T_api_Alt.enc o0_15, .ptr 2 0, i64 o0_17, i64 o0_18, i64 o0_19, i64 o0_20, i64 o0_21, i64 y36.1, i64 o0_23, i64 o0_24, .row 4 (o4).length, .row 12 ([] : List T_api_Alt).length, i64 o0_27, bo o0_28], .row 3 1 (encL (eInt .i64) o1), .blk 123 [.row 3 (y36.2.l).length, i64 y36.2.most], .row 3 1 (encL (eInt .i64) y36.2.l), .row 3 1 (encL (eInt .i64) o4), .row 47 5 (encL T_api_Alt.enc o5), .ghost (gv 0) (.ptr 0 0), .ghost (gv 1) (.row 1 0), .ghost (gv 2) (.ptr 2 0), .ghost (gv 3) (.undef), .ghost (gv 4) (.row 4 0), .ghost (gv 5) (.row 5 0), .row 47 5 (encL T_api_Alt.enc ([]))]⟩) (fun s => F_run_runner_ends_J5 o0_0 o0_1 o0_2 o0_3 o0_4 o0_5 o0_6 o0_8 o0_9 o0_10 o0_11 o0_12 o0_13 o0_14 o0_15 o0_17 o0_18 o0_19 o0_20 o0_21 o0_23 o0_24 o0_27 o0_28 o1 o4 y2 y36 s = some r) ?_ ?_
                  · refine At.sR [0, 6, 9, 117] [0, 1, 2, 3, 4, 5, 6, 7, 8, 9, 10, 11, 12] [] ?_
                    refine At.cd h (fun b40 h => ?_) (fun b40 h => ?_)
                    · exact At.rK [0, 6, 9] [0, 1, 2, 3, 4, 5, 6, 7, 8, 9, 10, 11, 12] [] fun _ _ i => ⟨8, h, i⟩
                    · refine At.nR [0, 6, 9] [0, 1, 2, 3, 4, 5, 6, 7, 8, 9, 10, 11, 12] ?_
                      refine At.skip (fun _ _ i => ⟨6, h, i.en [] [0, 6, 9] [0, 1, 2, 3, 4, 5, 6, 7, 8, 9, 10, 11, 12]⟩)
                  · intro x38 h
                    obtain ⟨y39, hy39, h⟩ := bs h
                    obtain rfl := sq h
                    refine At.rG [] [0, 1, 2, 3, 4, 5, 6, 7, 8, 9, 10, 11, 12] [cT 3 6 [0, 1, 2, 3, 4, 12] (C_run_runner_end x38 y2 o0_0 o0_1 o0_2 o0_3 o0_4 o0_5 o0_6 o0_8 o0_9 o0_10 o0_11 o0_12 o0_13 o0_14 o0_15 o0_17 o0_18 o0_19 o0_20 o0_21 y36.1 o0_23 o0_24 o0_27 o0_28 y36.2 o1 o4 ([] : List T_api_Alt) y39 hy39)] (edq (l := [.hideG 10, .hideG 11]) (ks := []) (ρ := [0, 1, 2, 3, 4, 5, 6, 7, 8, 9, 10, 11, 12]) (st' := ⟨[], [.blk 81 [lv T_api_Ins.enc y39.1, lv T_api_Def.enc y39.2.1, lv T_api_Chan.enc y39.2.2.1, i64 y39.2.2.2.1, i64 y39.2.2.2.2.1, i64 y39.2.2.2.2.2.1, i64 y39.2.2.2.2.2.2.1, .row 1 (o1).length, i64 y39.2.2.2.2.2.2.2.1, i64 y39.2.2.2.2.2.2.2.2.1, i64 y39.2.2.2.2.2.2.2.2.2.1, i64 y39.2.2.2.2.2.2.2.2.2.2.1, i64 y39.2.2.2.2.2.2.2.2.2.2.2.1, i64 y39.2.2.2.2.2.2.2.2.2.2.2.2.1, i64 y39.2.2.2.2.2.2.2.2.2.2.2.2.2.1, lv T_api_Alt.enc y39.2.2.2.2.2.2.2.2.2.2.2.2.2.2.1, .ptr 2 0, i64 y39.2.2.2.2.2.2.2.2.2.2.2.2.2.2.2.1, i64 y39.2.2.2.2.2.2.2.2.2.2.2.2.2.2.2.2.1, i64 y39.2.2.2.2.2.2.2.2.2.2.2.2.2.2.2.2.2.1, i64 y39.2.2.2.2.2.2.2.2.2.2.2.2.2.2.2.2.2.2.1, i64 y39.2.2.2.2.2.2.2.2.2.2.2.2.2.2.2.2.2.2.2.1, i64 y39.2.2.2.2.2.2.2.2.2.2.2.2.2.2.2.2.2.2.2.2.1, i64 y39.2.2.2.2.2.2.2.2.2.2.2.2.2.2.2.2.2.2.2.2.2.1, i64 y39.2.2.2.2.2.2.2.2.2.2.2.2.2.2.2.2.2.2.2.2.2.2.1, .row 4 (o4).length, .row 12 ([] : List T_api_Alt).length, i64 y39.2.2.2.2.2.2.2.2.2.2.2.2.2.2.2.2.2.2.2.2.2.2.2.1, bo y39.2.2.2.2.2.2.2.2.2.2.2.2.2.2.2.2.2.2.2.2.2.2.2.2], .row 3 1 (encL (eInt .i64) o1), .blk 123 [.row 3 (y36.2.l).length, i64 y36.2.most], .row 3 1 (encL (eInt .i64) y36.2.l), .row 3 1 (encL (eInt .i64) o4), .row 47 5 (encL T_api_Alt.enc o5), .ghost (gv 0) (.ptr 0 0), .ghost (gv 1) (.row 1 0), .ghost (gv 2) (.ptr 2 0), .ghost (gv 3) (.undef), .ghost (gv 4) (.undef), .ghost (gv 5) (.undef), .row 47 5 (encL T_api_Alt.enc ([]))]⟩) (by kernel_rfl) (At.rN hR [0, 1, 2, 3, 4, 5, 12]))
                · refine At.sR [0, 4, 6, 7, 27, 122] [0, 1, 2, 3, 4, 5, 6, 7, 8, 9, 10, 11, 12] [] ?_
                  refine At.cd h (fun b41 h => ?_) (fun b41 h => ?_)
                  · refine At.sR [0, 4, 6] [0, 1, 2, 3, 4, 5, 6, 7, 8, 9, 10, 11, 12] [] ?_
                    obtain ⟨y43, hy43, h⟩ := bs h
                    refine At.sD 1 [0, 6] [0, 1, 2, 3, 4, 5, 6, 7, 8, 9, 10, 11, 13] [cT 7 2 [2, 3, 13] (C_stack_Stack_int_Take p1.B o2 y43 hy43)] ?_
                    refine At.eds [.reO 0 26 5] (st' := ⟨[(0, .ptr 0 0), (6, i64 y2)], [.blk 81 [lv T_api_Ins.enc o0_0, lv T_api_Def.enc o0_1, lv T_api_Chan.enc o0_2, i64 o0_3, i64 o0_4, i64 o0_5, i64 o0_6, .row 1 (o1).length, i64 o0_8, i64 o0_9, i64 o0_10, i64 o0_11, i64 o0_12, i64 o0_13, i64 o0_14, lv T_api_Alt.enc o0_15, .ptr 2 0, i64 o0_17, i64 o0_18, i64 o0_19, i64 o0_20, i64 o0_21, i64 o0_22, i64 o0_23, i64 p1.A, .row 12 (y43.1).length, .row 5 ([] : List T_api_Alt).length, i64 o0_27, bo o0_28], .row 3 1 (encL (eInt .i64) o1), .blk 123 [.row 3 (y43.2.2.l).length, i64 y43.2.2.most], .row 3 1 (encL (eInt .i64) y43.2.2.l), .row 3 1 (encL (eInt .i64) o4), .row 47 5 (encL T_api_Alt.enc ([])), .ghost (gv 0) (.ptr 0 0), .ghost (gv 1) (.row 1 0), .ghost (gv 2) (.ptr 2 0), .ghost (gv 3) (.undef), .ghost (gv 4) (.row 4 0), .ghost (gv 5) (.undef), .row 3 1 (encL (eInt .i64) y43.1)]⟩) (by kernel_rfl) ?_
                    obtain ⟨y44, hy44, h⟩ := bs h
                    obtain rfl := sq h
                    refine At.rG [] [0, 1, 2, 3, 4, 5, 6, 7, 8, 9, 10, 11, 12] [cT 2 6 [0, 1, 2, 3, 12, 5] (C_run_runner_end 7 y2 o0_0 o0_1 o0_2 o0_3 o0_4 o0_5 o0_6 o0_8 o0_9 o0_10 o0_11 o0_12 o0_13 o0_14 o0_15 o0_17 o0_18 o0_19 o0_20 o0_21 o0_22 o0_23 p1.A o0_27 o0_28 y43.2.2 o1 y43.1 ([] : List T_api_Alt) y44 hy44)] (edq (l := [.hideG 10]) (ks := []) (ρ := [0, 1, 2, 3, 4, 5, 6, 7, 8, 9, 10, 11, 12]) (st' := ⟨[], [.blk 81 [lv T_api_Ins.enc y44.1, lv T_api_Def.enc y44.2.1, lv T_api_Chan.enc y44.2.2.1, i64 y44.2.2.2.1, i64 y44.2.2.2.2.1, i64 y44.2.2.2.2.2.1, i64 y44.2.2.2.2.2.2.1, .row 1 (o1).length, i64 y44.2.2.2.2.2.2.2.1, i64 y44.2.2.2.2.2.2.2.2.1, i64 y44.2.2.2.2.2.2.2.2.2.1, i64 y44.2.2.2.2.2.2.2.2.2.2.1, i64 y44.2.2.2.2.2.2.2.2.2.2.2.1, i64 y44.2.2.2.2.2.2.2.2.2.2.2.2.1, i64 y44.2.2.2.2.2.2.2.2.2.2.2.2.2.1, lv T_api_Alt.enc y44.2.2.2.2.2.2.2.2.2.2.2.2.2.2.1, .ptr 2 0, i64 y44.2.2.2.2.2.2.2.2.2.2.2.2.2.2.2.1, i64 y44.2.2.2.2.2.2.2.2.2.2.2.2.2.2.2.2.1, i64 y44.2.2.2.2.2.2.2.2.2.2.2.2.2.2.2.2.2.1, i64 y44.2.2.2.2.2.2.2.2.2.2.2.2.2.2.2.2.2.2.1, i64 y44.2.2.2.2.2.2.2.2.2.2.2.2.2.2.2.2.2.2.2.1, i64 y44.2.2.2.2.2.2.2.2.2.2.2.2.2.2.2.2.2.2.2.2.1, i64 y44.2.2.2.2.2.2.2.2.2.2.2.2.2.2.2.2.2.2.2.2.2.1, i64 y44.2.2.2.2.2.2.2.2.2.2.2.2.2.2.2.2.2.2.2.2.2.2.1, .row 12 (y43.1).length, .row 5 ([] : List T_api_Alt).length, i64 y44.2.2.2.2.2.2.2.2.2.2.2.2.2.2.2.2.2.2.2.2.2.2.2.1, bo y44.2.2.2.2.2.2.2.2.2.2.2.2.2.2.2.2.2.2.2.2.2.2.2.2], .row 3 1 (encL (eInt .i64) o1), .blk 123 [.row 3 (y43.2.2.l).length, i64 y43.2.2.most], .row 3 1 (encL (eInt .i64) y43.2.2.l), .row 3 1 (encL (eInt .i64) o4), .row 47 5 (encL T_api_Alt.enc ([])), .ghost (gv 0) (.ptr 0 0), .ghost (gv 1) (.row 1 0), .ghost (gv 2) (.ptr 2 0), .ghost (gv 3) (.undef), .ghost (gv 4) (.undef), .ghost (gv 5) (.undef), .row 3 1 (encL (eInt .i64) y43.1)]⟩) (by kernel_rfl) (At.rN hR [0, 1, 2, 3, 4, 5, 12]))
                  · refine At.sR [0, 6, 7, 27, 147] [0, 1, 2, 3, 4, 5, 6, 7, 8, 9, 10, 11] [] ?_
                    refine At.cd h (fun b45 h => ?_) (fun b45 h => ?_)
                    · refine At.seq ?_
                      refine At.seq ?_
                      refine At.eds [.ownO 0 26 47 5] (st' := ⟨[(0, .ptr 0 0), (6, i64 y2), (7, .row 5 (o5).length), (27, i64 p1.Op), (147, bo (p1.Op == 16))], [.blk 81 [lv T_api_Ins.enc o0_0, lv T_api_Def.enc o0_1, lv T_api_Chan.enc o0_2, i64 o0_3, i64 o0_4, i64 o0_5, i64 o0_6, .row 1 (o1).length, i64 o0_8, i64 o0_9, i64 o0_10, i64 o0_11, i64 o0_12, i64 o0_13, i64 o0_14, lv T_api_Alt.enc o0_15, .ptr 2 0, i64 o0_17, i64 o0_18, i64 o0_19, i64 o0_20, i64 o0_21, i64 o0_22, i64 o0_23, i64 o0_24, .row 4 (o4).length, .row 12 ([] : List T_api_Alt).length, i64 o0_27, bo o0_28], .row 3 1 (encL (eInt .i64) o1), .blk 123 [.row 3 (o2.l).length, i64 o2.most], .row 3 1 (encL (eInt .i64) o2.l), .row 3 1 (encL (eInt .i64) o4), .row 47 5 (encL T_api_Alt.enc o5), .ghost (gv 0) (.ptr 0 0), .ghost (gv 1) (.row 1 0), .ghost (gv 2) (.ptr 2 0), .ghost (gv 3) (.row 3 0), .ghost (gv 4) (.row 4 0), .ghost (gv 5) (.row 5 0), .row 47 5 (encL T_api_Alt.enc ([]))]⟩) (by kernel_rfl) ?_
                      obtain ⟨y52, hy52, h⟩ := bs h
                      refine At.rG [0, 6, 151] [0, 1, 2, 3, 4, 5, 6, 7, 8, 9, 10, 11, 12] [cT 1 6 [0, 1, 2, 3, 4, 12] (C_run_runner_take o0_0 o0_1 o0_2 o0_3 o0_4 o0_5 o0_6 o0_8 o0_9 o0_10 o0_11 o0_12 o0_13 o0_14 o0_15 o0_17 o0_18 o0_19 o0_20 o0_21 o0_22 o0_23 o0_24 o0_27 o0_28 o2 o1 o4 ([] : List T_api_Alt) y52 hy52)] (norm ?_)
                      refine At.cd h (fun b53 h => ?_) (fun b53 h => ?_)
                      · obtain ⟨y55, hy55, h⟩ := bs h
                        refine At.sR [] [0, 1, 2, 3, 4, 5, 6, 7, 8, 9, 10, 11, 12] [cT 1 6 [0, 1, 2, 3, 4, 12] (C_run_runner_fault 6 o0_0 o0_1 o0_2 o0_3 o0_4 o0_5 o0_6 o0_8 o0_9 o0_10 o0_11 o0_12 o0_13 o0_14 o0_15 o0_17 o0_18 o0_19 o0_20 o0_21 o0_22 o0_23 o0_24 o0_27 o0_28 y52.2 o1 o4 ([] : List T_api_Alt) y55 hy55)] ?_
                        refine At.eN [.hideG 11] [] [0, 1, 2, 3, 4, 5, 6, 7, 8, 9, 10, 11, 12] ?_
                        obtain rfl := sq h
                        exact At.ret (At.rR hR [0, 1, 2, 3, 4, 5, 12])
                      · refine At.nR [0, 6] [0, 1, 2, 3, 4, 5, 6, 7, 8, 9, 10, 11, 12] ?_
                        refine At.skip (norm ?_)
                        obtain ⟨y56, hy56, h⟩ := bs h
                        obtain rfl := sq h
                        refine At.rG [] [0, 1, 2, 3, 4, 5, 6, 7, 8, 9, 10, 11, 12] [cT 2 6 [0, 1, 2, 3, 4, 12] (C_run_runner_end 1 y2 o0_0 o0_1 o0_2 o0_3 o0_4 o0_5 o0_6 o0_8 o0_9 o0_10 o0_11 o0_12 o0_13 o0_14 o0_15 o0_17 o0_18 o0_19 o0_20 o0_21 o0_22 o0_23 o0_24 o0_27 o0_28 y52.2 o1 o4 ([] : List T_api_Alt) y56 hy56)] (edq (l := [.hideG 10, .hideG 11]) (ks := []) (ρ := [0, 1, 2, 3, 4, 5, 6, 7, 8, 9, 10, 11, 12]) (st' := ⟨[], [.blk 81 [lv T_api_Ins.enc y56.1, lv T_api_Def.enc y56.2.1, lv T_api_Chan.enc y56.2.2.1, i64 y56.2.2.2.1, i64 y56.2.2.2.2.1, i64 y56.2.2.2.2.2.1, i64 y56.2.2.2.2.2.2.1, .row 1 (o1).length, i64 y56.2.2.2.2.2.2.2.1, i64 y56.2.2.2.2.2.2.2.2.1, i64 y56.2.2.2.2.2.2.2.2.2.1, i64 y56.2.2.2.2.2.2.2.2.2.2.1, i64 y56.2.2.2.2.2.2.2.2.2.2.2.1, i64 y56.2.2.2.2.2.2.2.2.2.2.2.2.1, i64 y56.2.2.2.2.2.2.2.2.2.2.2.2.2.1, lv T_api_Alt.enc y56.2.2.2.2.2.2.2.2.2.2.2.2.2.2.1, .ptr 2 0, i64 y56.2.2.2.2.2.2.2.2.2.2.2.2.2.2.2.1, i64 y56.2.2.2.2.2.2.2.2.2.2.2.2.2.2.2.2.1, i64 y56.2.2.2.2.2.2.2.2.2.2.2.2.2.2.2.2.2.1, i64 y56.2.2.2.2.2.2.2.2.2.2.2.2.2.2.2.2.2.2.1, i64 y56.2.2.2.2.2.2.2.2.2.2.2.2.2.2.2.2.2.2.2.1, i64 y56.2.2.2.2.2.2.2.2.2.2.2.2.2.2.2.2.2.2.2.2.1, i64 y56.2.2.2.2.2.2.2.2.2.2.2.2.2.2.2.2.2.2.2.2.2.1, i64 y56.2.2.2.2.2.2.2.2.2.2.2.2.2.2.2.2.2.2.2.2.2.2.1, .row 4 (o4).length, .row 12 ([] : List T_api_Alt).length, i64 y56.2.2.2.2.2.2.2.2.2.2.2.2.2.2.2.2.2.2.2.2.2.2.2.1, bo y56.2.2.2.2.2.2.2.2.2.2.2.2.2.2.2.2.2.2.2.2.2.2.2.2], .row 3 1 (encL (eInt .i64) o1), .blk 123 [.row 3 (y52.2.l).length, i64 y52.2.most], .row 3 1 (encL (eInt .i64) y52.2.l), .row 3 1 (encL (eInt .i64) o4), .row 47 5 (encL T_api_Alt.enc o5), .ghost (gv 0) (.ptr 0 0), .ghost (gv 1) (.row 1 0), .ghost (gv 2) (.ptr 2 0), .ghost (gv 3) (.undef), .ghost (gv 4) (.undef), .ghost (gv 5) (.undef), .row 47 5 (encL T_api_Alt.enc ([]))]⟩) (by kernel_rfl) (At.rN hR [0, 1, 2, 3, 4, 5, 12]))
                    · refine At.sR [0, 6, 7, 27, 157] [0, 1, 2, 3, 4, 5, 6, 7, 8, 9, 10, 11] [] ?_
                      refine At.cd h (fun b57 h => ?_) (fun b57 h => ?_)
                      · refine At.eds [.ownO 0 26 47 5] (st' := ⟨[(0, .ptr 0 0), (6, i64 y2), (7, .row 5 (o5).length), (27, i64 p1.Op), (157, bo (p1.Op == 17))], [.blk 81 [lv T_api_Ins.enc o0_0, lv T_api_Def.enc o0_1, lv T_api_Chan.enc o0_2, i64 o0_3, i64 o0_4, i64 o0_5, i64 o0_6, .row 1 (o1).length, i64 o0_8, i64 o0_9, i64 o0_10, i64 o0_11, i64 o0_12, i64 o0_13, i64 o0_14, lv T_api_Alt.enc o0_15, .ptr 2 0, i64 o0_17, i64 o0_18, i64 o0_19, i64 o0_20, i64 o0_21, i64 o0_22, i64 o0_23, i64 o0_24, .row 4 (o4).length, .row 12 ([] : List T_api_Alt).length, i64 o0_27, bo o0_28], .row 3 1 (encL (eInt .i64) o1), .blk 123 [.row 3 (o2.l).length, i64 o2.most], .row 3 1 (encL (eInt .i64) o2.l), .row 3 1 (encL (eInt .i64) o4), .row 47 5 (encL T_api_Alt.enc o5), .ghost (gv 0) (.ptr 0 0), .ghost (gv 1) (.row 1 0), .ghost (gv 2) (.ptr 2 0), .ghost (gv 3) (.row 3 0), .ghost (gv 4) (.row 4 0), .ghost (gv 5) (.row 5 0), .row 47 5 (encL T_api_Alt.enc ([]))]⟩) (by kernel_rfl) ?_
                        obtain ⟨y58, hy58, h⟩ := bs h
                        obtain rfl := sq h
                        refine At.rG [] [0, 1, 2, 3, 4, 5, 6, 7, 8, 9, 10, 11, 12] [cT 2 6 [0, 1, 2, 3, 4, 12] (C_run_runner_end 1 y2 o0_0 o0_1 o0_2 o0_3 o0_4 o0_5 o0_6 o0_8 o0_9 o0_10 o0_11 o0_12 o0_13 o0_14 o0_15 o0_17 o0_18 o0_19 o0_20 o0_21 o0_22 o0_23 o0_24 o0_27 o0_28 o2 o1 o4 ([] : List T_api_Alt) y58 hy58)] (edq (l := [.hideG 9, .hideG 10, .hideG 11]) (ks := []) (ρ := [0, 1, 2, 3, 4, 5, 6, 7, 8, 9, 10, 11, 12]) (st' := ⟨[], [.blk 81 [lv T_api_Ins.enc y58.1, lv T_api_Def.enc y58.2.1, lv T_api_Chan.enc y58.2.2.1, i64 y58.2.2.2.1, i64 y58.2.2.2.2.1, i64 y58.2.2.2.2.2.1, i64 y58.2.2.2.2.2.2.1, .row 1 (o1).length, i64 y58.2.2.2.2.2.2.2.1, i64 y58.2.2.2.2.2.2.2.2.1, i64 y58.2.2.2.2.2.2.2.2.2.1, i64 y58.2.2.2.2.2.2.2.2.2.2.1, i64 y58.2.2.2.2.2.2.2.2.2.2.2.1, i64 y58.2.2.2.2.2.2.2.2.2.2.2.2.1, i64 y58.2.2.2.2.2.2.2.2.2.2.2.2.2.1, lv T_api_Alt.enc y58.2.2.2.2.2.2.2.2.2.2.2.2.2.2.1, .ptr 2 0, i64 y58.2.2.2.2.2.2.2.2.2.2.2.2.2.2.2.1, i64 y58.2.2.2.2.2.2.2.2.2.2.2.2.2.2.2.2.1, i64 y58.2.2.2.2.2.2.2.2.2.2.2.2.2.2.2.2.2.1, i64 y58.2.2.2.2.2.2.2.2.2.2.2.2.2.2.2.2.2.2.1, i64 y58.2.2.2.2.2.2.2.2.2.2.2.2.2.2.2.2.2.2.2.1, i64 y58.2.2.2.2.2.2.2.2.2.2.2.2.2.2.2.2.2.2.2.2.1, i64 y58.2.2.2.2.2.2.2.2.2.2.2.2.2.2.2.2.2.2.2.2.2.1, i64 y58.2.2.2.2.2.2.2.2.2.2.2.2.2.2.2.2.2.2.2.2.2.2.1, .row 4 (o4).length, .row 12 ([] : List T_api_Alt).length, i64 y58.2.2.2.2.2.2.2.2.2.2.2.2.2.2.2.2.2.2.2.2.2.2.2.1, bo y58.2.2.2.2.2.2.2.2.2.2.2.2.2.2.2.2.2.2.2.2.2.2.2.2], .row 3 1 (encL (eInt .i64) o1), .blk 123 [.row 3 (o2.l).length, i64 o2.most], .row 3 1 (encL (eInt .i64) o2.l), .row 3 1 (encL (eInt .i64) o4), .row 47 5 (encL T_api_Alt.enc o5), .ghost (gv 0) (.ptr 0 0), .ghost (gv 1) (.row 1 0), .ghost (gv 2) (.ptr 2 0), .ghost (gv 3) (.undef), .ghost (gv 4) (.undef), .ghost (gv 5) (.undef), .row 47 5 (encL T_api_Alt.enc ([]))]⟩) (by kernel_rfl) (At.rN hR [0, 1, 2, 3, 4, 5, 12]))
                      · refine At.sR [0, 7, 27, 162] [0, 1, 2, 3, 4, 5, 6, 7, 8, 9, 10, 11] [] ?_
                        refine At.cd h (fun b59 h => ?_) (fun b59 h => ?_)
                        · refine At.eds [.ownO 0 26 47 5] (st' := ⟨[(0, .ptr 0 0), (7, .row 5 (o5).length), (27, i64 p1.Op), (162, bo (p1.Op == 18))], [.blk 81 [lv T_api_Ins.enc o0_0, lv T_api_Def.enc o0_1, lv T_api_Chan.enc o0_2, i64 o0_3, i64 o0_4, i64 o0_5, i64 o0_6, .row 1 (o1).length, i64 o0_8, i64 o0_9, i64 o0_10, i64 o0_11, i64 o0_12, i64 o0_13, i64 o0_14, lv T_api_Alt.enc o0_15, .ptr 2 0, i64 o0_17, i64 o0_18, i64 o0_19, i64 o0_20, i64 o0_21, i64 o0_22, i64 o0_23, i64 o0_24, .row 4 (o4).length, .row 12 ([] : List T_api_Alt).length, i64 o0_27, bo o0_28], .row 3 1 (encL (eInt .i64) o1), .blk 123 [.row 3 (o2.l).length, i64 o2.most], .row 3 1 (encL (eInt .i64) o2.l), .row 3 1 (encL (eInt .i64) o4), .row 47 5 (encL T_api_Alt.enc o5), .ghost (gv 0) (.ptr 0 0), .ghost (gv 1) (.row 1 0), .ghost (gv 2) (.ptr 2 0), .ghost (gv 3) (.row 3 0), .ghost (gv 4) (.row 4 0), .ghost (gv 5) (.row 5 0), .row 47 5 (encL T_api_Alt.enc ([]))]⟩) (by kernel_rfl) ?_
                          obtain ⟨y60, hy60, h⟩ := bs h
                          obtain rfl := sq h
                          refine At.rG [] [0, 1, 2, 3, 4, 5, 6, 7, 8, 9, 10, 11, 12] [cT 1 6 [0, 1, 2, 3, 4, 12] (C_run_runner_end 9 0 o0_0 o0_1 o0_2 o0_3 o0_4 o0_5 o0_6 o0_8 o0_9 o0_10 o0_11 o0_12 o0_13 o0_14 o0_15 o0_17 o0_18 o0_19 o0_20 o0_21 o0_22 o0_23 o0_24 o0_27 o0_28 o2 o1 o4 ([] : List T_api_Alt) y60 hy60)] (edq (l := [.hideG 9, .hideG 10, .hideG 11]) (ks := []) (ρ := [0, 1, 2, 3, 4, 5, 6, 7, 8, 9, 10, 11, 12]) (st' := ⟨[], [.blk 81 [lv T_api_Ins.enc y60.1, lv T_api_Def.enc y60.2.1, lv T_api_Chan.enc y60.2.2.1, i64 y60.2.2.2.1, i64 y60.2.2.2.2.1, i64 y60.2.2.2.2.2.1, i64 y60.2.2.2.2.2.2.1, .row 1 (o1).length, i64 y60.2.2.2.2.2.2.2.1, i64 y60.2.2.2.2.2.2.2.2.1, i64 y60.2.2.2.2.2.2.2.2.2.1, i64 y60.2.2.2.2.2.2.2.2.2.2.1, i64 y60.2.2.2.2.2.2.2.2.2.2.2.1, i64 y60.2.2.2.2.2.2.2.2.2.2.2.2.1, i64 y60.2.2.2.2.2.2.2.2.2.2.2.2.2.1, lv T_api_Alt.enc y60.2.2.2.2.2.2.2.2.2.2.2.2.2.2.1, .ptr 2 0, i64 y60.2.2.2.2.2.2.2.2.2.2.2.2.2.2.2.1, i64 y60.2.2.2.2.2.2.2.2.2.2.2.2.2.2.2.2.1, i64 y60.2.2.2.2.2.2.2.2.2.2.2.2.2.2.2.2.2.1, i64 y60.2.2.2.2.2.2.2.2.2.2.2.2.2.2.2.2.2.2.1, i64 y60.2.2.2.2.2.2.2.2.2.2.2.2.2.2.2.2.2.2.2.1, i64 y60.2.2.2.2.2.2.2.2.2.2.2.2.2.2.2.2.2.2.2.2.1, i64 y60.2.2.2.2.2.2.2.2.2.2.2.2.2.2.2.2.2.2.2.2.2.1, i64 y60.2.2.2.2.2.2.2.2.2.2.2.2.2.2.2.2.2.2.2.2.2.2.1, .row 4 (o4).length, .row 12 ([] : List T_api_Alt).length, i64 y60.2.2.2.2.2.2.2.2.2.2.2.2.2.2.2.2.2.2.2.2.2.2.2.1, bo y60.2.2.2.2.2.2.2.2.2.2.2.2.2.2.2.2.2.2.2.2.2.2.2.2], .row 3 1 (encL (eInt .i64) o1), .blk 123 [.row 3 (o2.l).length, i64 o2.most], .row 3 1 (encL (eInt .i64) o2.l), .row 3 1 (encL (eInt .i64) o4), .row 47 5 (encL T_api_Alt.enc o5), .ghost (gv 0) (.ptr 0 0), .ghost (gv 1) (.row 1 0), .ghost (gv 2) (.ptr 2 0), .ghost (gv 3) (.undef), .ghost (gv 4) (.undef), .ghost (gv 5) (.undef), .row 47 5 (encL T_api_Alt.enc ([]))]⟩) (by kernel_rfl) (At.rN hR [0, 1, 2, 3, 4, 5, 12]))
                        · refine At.sR [0, 7, 166] [0, 1, 2, 3, 4, 5, 6, 7, 8, 9, 10, 11] [] ?_
                          refine At.cd h (fun b61 h => ?_) (fun b61 h => ?_)
                          · refine At.seq ?_
                            refine At.rK (st' := ⟨[(0, .ptr 0 0)], [.blk 81 [lv T_api_Ins.enc o0_0, lv T_api_Def.enc o0_1, lv T_api_Chan.enc o0_2, i64 o0_3, i64 o0_4, i64 o0_5, i64 o0_6, .row 1 (o1).length, i64 o0_8, i64 o0_9, i64 o0_10, i64 o0_11, i64 o0_12, i64 o0_13, i64 o0_14, lv T_api_Alt.enc o0_15, .ptr 2 0, i64 o0_17, i64 o0_18, i64 o0_19, i64 o0_20, i64 o0_21, i64 o0_22, i64 o0_23, i64 o0_24, .row 4 (o4).length, .row 5 (o5).length, i64 o0_27, bo o0_28], .row 3 1 (encL (eInt .i64) o1), .blk 123 [.row 3 (o2.l).length, i64 o2.most], .row 3 1 (encL (eInt .i64) o2.l), .row 3 1 (encL (eInt .i64) o4), .row 47 5 (encL T_api_Alt.enc o5), .ghost (gv 0) (.ptr 0 0), .ghost (gv 1) (.row 1 0), .ghost (gv 2) (.ptr 2 0), .ghost (gv 3) (.row 3 0), .ghost (gv 4) (.row 4 0), .ghost (gv 5) (.row 5 0)]⟩) [0] [0, 1, 2, 3, 4, 5, 6, 7, 8, 9, 10, 11] [] (norm ?_)
                            obtain ⟨y62, hy62, h⟩ := bs h
                            obtain rfl := sq h
                            refine At.rG [] [0, 1, 2, 3, 4, 5, 6, 7, 8, 9, 10, 11] [cT 1 6 [0, 1, 2, 3, 4, 5] (C_run_runner_end 10 0 o0_0 o0_1 o0_2 o0_3 o0_4 o0_5 o0_6 o0_8 o0_9 o0_10 o0_11 o0_12 o0_13 o0_14 o0_15 o0_17 o0_18 o0_19 o0_20 o0_21 o0_22 o0_23 o0_24 o0_27 o0_28 o2 o1 o4 o5 y62 hy62)] (edq (l := [.hideG 9, .hideG 10, .hideG 11]) (ks := []) (ρ := [0, 1, 2, 3, 4, 5, 6, 7, 8, 9, 10, 11]) (st' := ⟨[], [.blk 81 [lv T_api_Ins.enc y62.1, lv T_api_Def.enc y62.2.1, lv T_api_Chan.enc y62.2.2.1, i64 y62.2.2.2.1, i64 y62.2.2.2.2.1, i64 y62.2.2.2.2.2.1, i64 y62.2.2.2.2.2.2.1, .row 1 (o1).length, i64 y62.2.2.2.2.2.2.2.1, i64 y62.2.2.2.2.2.2.2.2.1, i64 y62.2.2.2.2.2.2.2.2.2.1, i64 y62.2.2.2.2.2.2.2.2.2.2.1, i64 y62.2.2.2.2.2.2.2.2.2.2.2.1, i64 y62.2.2.2.2.2.2.2.2.2.2.2.2.1, i64 y62.2.2.2.2.2.2.2.2.2.2.2.2.2.1, lv T_api_Alt.enc y62.2.2.2.2.2.2.2.2.2.2.2.2.2.2.1, .ptr 2 0, i64 y62.2.2.2.2.2.2.2.2.2.2.2.2.2.2.2.1, i64 y62.2.2.2.2.2.2.2.2.2.2.2.2.2.2.2.2.1, i64 y62.2.2.2.2.2.2.2.2.2.2.2.2.2.2.2.2.2.1, i64 y62.2.2.2.2.2.2.2.2.2.2.2.2.2.2.2.2.2.2.1, i64 y62.2.2.2.2.2.2.2.2.2.2.2.2.2.2.2.2.2.2.2.1, i64 y62.2.2.2.2.2.2.2.2.2.2.2.2.2.2.2.2.2.2.2.2.1, i64 y62.2.2.2.2.2.2.2.2.2.2.2.2.2.2.2.2.2.2.2.2.2.1, i64 y62.2.2.2.2.2.2.2.2.2.2.2.2.2.2.2.2.2.2.2.2.2.2.1, .row 4 (o4).length, .row 5 (o5).length, i64 y62.2.2.2.2.2.2.2.2.2.2.2.2.2.2.2.2.2.2.2.2.2.2.2.1, bo y62.2.2.2.2.2.2.2.2.2.2.2.2.2.2.2.2.2.2.2.2.2.2.2.2], .row 3 1 (encL (eInt .i64) o1), .blk 123 [.row 3 (o2.l).length, i64 o2.most], .row 3 1 (encL (eInt .i64) o2.l), .row 3 1 (encL (eInt .i64) o4), .row 47 5 (encL T_api_Alt.enc o5), .ghost (gv 0) (.ptr 0 0), .ghost (gv 1) (.row 1 0), .ghost (gv 2) (.ptr 2 0), .ghost (gv 3) (.undef), .ghost (gv 4) (.undef), .ghost (gv 5) (.undef)]⟩) (by kernel_rfl) (At.rN hR [0, 1, 2, 3, 4, 5]))
                          · refine At.nK (st' := ⟨[], [.blk 81 [lv T_api_Ins.enc o0_0, lv T_api_Def.enc o0_1, lv T_api_Chan.enc o0_2, i64 o0_3, i64 o0_4, i64 o0_5, i64 o0_6, .row 1 (o1).length, i64 o0_8, i64 o0_9, i64 o0_10, i64 o0_11, i64 o0_12, i64 o0_13, i64 o0_14, lv T_api_Alt.enc o0_15, .ptr 2 0, i64 o0_17, i64 o0_18, i64 o0_19, i64 o0_20, i64 o0_21, i64 o0_22, i64 o0_23, i64 o0_24, .row 4 (o4).length, .d (.list true 0 []), i64 o0_27, bo o0_28], .row 3 1 (encL (eInt .i64) o1), .blk 123 [.row 3 (o2.l).length, i64 o2.most], .row 3 1 (encL (eInt .i64) o2.l), .row 3 1 (encL (eInt .i64) o4), .row 47 5 (encL T_api_Alt.enc o5), .ghost (gv 0) (.ptr 0 0), .ghost (gv 1) (.row 1 0), .ghost (gv 2) (.ptr 2 0), .ghost (gv 3) (.row 3 0), .ghost (gv 4) (.row 4 0), .ghost (gv 5) (.row 5 0)]⟩) [] [0, 1, 2, 3, 4, 5, 6, 7, 8, 9, 10, 11] ?_
                            obtain rfl := sq h
                            refine At.skip (edq (l := [.hideG 9, .hideG 10, .hideG 11, .reO 0 26 5]) (ks := []) (ρ := [0, 1, 2, 3, 4, 5, 6, 7, 8, 9, 10, 11]) (st' := ⟨[], [.blk 81 [lv T_api_Ins.enc o0_0, lv T_api_Def.enc o0_1, lv T_api_Chan.enc o0_2, i64 o0_3, i64 o0_4, i64 o0_5, i64 o0_6, .row 1 (o1).length, i64 o0_8, i64 o0_9, i64 o0_10, i64 o0_11, i64 o0_12, i64 o0_13, i64 o0_14, lv T_api_Alt.enc o0_15, .ptr 2 0, i64 o0_17, i64 o0_18, i64 o0_19, i64 o0_20, i64 o0_21, i64 o0_22, i64 o0_23, i64 o0_24, .row 4 (o4).length, .row 5 ([] : List T_api_Alt).length, i64 o0_27, bo o0_28], .row 3 1 (encL (eInt .i64) o1), .blk 123 [.row 3 (o2.l).length, i64 o2.most], .row 3 1 (encL (eInt .i64) o2.l), .row 3 1 (encL (eInt .i64) o4), .row 47 5 (encL T_api_Alt.enc ([])), .ghost (gv 0) (.ptr 0 0), .ghost (gv 1) (.row 1 0), .ghost (gv 2) (.ptr 2 0), .ghost (gv 3) (.undef), .ghost (gv 4) (.undef), .ghost (gv 5) (.undef)]⟩) (by kernel_rfl) (At.rN hR [0, 1, 2, 3, 4, 5]))
theorem C_run_Step (p0 : T_api_Code) (p1_0 : Int) (p1_1 : Int) (p1_3 : Int) (p1_4 : Int) (p1_5 : Int) (p1_6 : Int) (p1_7 : Int) (p1_8 : Int) (p1_9 : Int) (p1_10 : (List T_api_Alt)) (o0 : (List Int)) (r : T_api_Effect) (h : F_run_Step p0 p1_0 p1_1 p1_3 p1_4 p1_5 p1_6 p1_7 p1_8 p1_9 p1_10 o0 = some r) : FnOK Tryz.prog 13 [.agg (T_api_Code.pvs p0), .agg [i64 p1_0, i64 p1_1, .row 0 (o0).length, i64 p1_3, i64 p1_4, i64 p1_5, i64 p1_6, i64 p1_7, i64 p1_8, i64 p1_9, lv T_api_Alt.enc p1_10]] [.row 3 1 (encL (eInt .i64) o0)] (.agg (T_api_Effect.pvs r)) [.row 3 1 (encL (eInt .i64) o0)] [0] := by
  refine fI Tryz.func13 rfl fun E gv R hR => ?_
  refine At.sR [2, 3, 4] [0, 1, 2, 3, 4] [] ?_
  refine At.seq ?_
  refine At.seqJ (S := Bool) (fun s => ⟨[(2, .ptr 2 0), (3, .ptr 3 0), (4, .ptr 4 0), (16, bo s)], [.row 3 1 (encL (eInt .i64) o0), .ghost (gv 0) (.row 0 0), .blk 27 (T_api_Code.pvs p0), .blk 38 [i64 p1_0, i64 p1_1, .row 0 (o0).length, i64 p1_3, i64 p1_4, i64 p1_5, i64 p1_6, i64 p1_7, i64 p1_8, i64 p1_9, lv T_api_Alt.enc p1_10], .blk 42 [i64 0, i64 0, i64 0, i64 0, i64 0, i64 0, i64 0, .d (.list true 0 []), .d (.list true 0 []), i64 0]]⟩) (fun s => F_run_Step_J1 p0 p1_0 p1_1 p1_3 p1_4 p1_5 p1_6 p1_7 p1_8 p1_9 p1_10 o0 s = some r) ?_ ?_
  · rcases cs h with ⟨b266, h⟩ | ⟨b266, h⟩
    · exact At.rK [2, 3, 4, 16] [0, 1, 2, 3, 4] [bT 3 b266] fun _ _ i => ⟨true, h, i⟩
    · obtain ⟨y267, hy267, h⟩ := bs h
      exact At.rK [2, 3, 4, 16] [0, 1, 2, 3, 4] [bT 3 b266, c0 7 (C_code_Stmt p0 p1_1 y267 hy267)] fun _ _ i => ⟨(decide (y267 < 0)), h, i⟩
  · intro x9 h
    refine At.cd h (fun b10 h => ?_) (fun b10 h => ?_)
    · refine At.sR [4] [0, 1, 4] [] ?_
      refine At.eN [.loO 2] [4] [0, 1, 2] ?_
      obtain rfl := sq h
      exact At.ret (At.rR hR [0])
    · refine At.nR [2, 3, 4] [0, 1, 2, 3, 4] ?_
      refine At.skip (norm ?_)
      obtain ⟨y13, hy13, h⟩ := bs h
      obtain ⟨y14, hy14, h⟩ := bs h
      refine At.sD 2 [2, 4, 5] [0, 1, 2, 4, 6, 5] [cT 2 0 [5] (C_stack_New_int 12 y13 hy13), eT T_api_Ins.enc_len 10 hy14] ?_
      refine At.seqJ (S := (List T_api_Ins) × (List T_api_Def) × (List T_api_Chan) × Int × Int × Int × Int × Int × Int × Int × Int × Int × Int × Int × (List T_api_Alt) × Int × Int × Int × Int × Int × Int × Int × Int × Int × Bool × Int × (List Int) × (List Int) × (List T_api_Alt)) (fun s => ⟨[(4, .ptr 2 0), (5, .ptr 3 0)], [.row 3 1 (encL (eInt .i64) o0), .ghost (gv 0) (.row 0 0), .blk 42 [i64 0, i64 0, i64 0, i64 0, i64 0, i64 0, i64 0, .d (.list true 0 []), .d (.list true 0 []), i64 0], .blk 81 [lv T_api_Ins.enc s.1, lv T_api_Def.enc s.2.1, lv T_api_Chan.enc s.2.2.1, i64 s.2.2.2.1, i64 s.2.2.2.2.1, i64 s.2.2.2.2.2.1, i64 s.2.2.2.2.2.2.1, .row 0 (o0).length, i64 s.2.2.2.2.2.2.2.1, i64 s.2.2.2.2.2.2.2.2.1, i64 s.2.2.2.2.2.2.2.2.2.1, i64 s.2.2.2.2.2.2.2.2.2.2.1, i64 s.2.2.2.2.2.2.2.2.2.2.2.1, i64 s.2.2.2.2.2.2.2.2.2.2.2.2.1, i64 s.2.2.2.2.2.2.2.2.2.2.2.2.2.1, lv T_api_Alt.enc s.2.2.2.2.2.2.2.2.2.2.2.2.2.2.1, .ptr 4 0, i64 s.2.2.2.2.2.2.2.2.2.2.2.2.2.2.2.1, i64 s.2.2.2.2.2.2.2.2.2.2.2.2.2.2.2.2.1, i64 s.2.2.2.2.2.2.2.2.2.2.2.2.2.2.2.2.2.1, i64 s.2.2.2.2.2.2.2.2.2.2.2.2.2.2.2.2.2.2.1, i64 s.2.2.2.2.2.2.2.2.2.2.2.2.2.2.2.2.2.2.2.1, i64 s.2.2.2.2.2.2.2.2.2.2.2.2.2.2.2.2.2.2.2.2.1, i64 s.2.2.2.2.2.2.2.2.2.2.2.2.2.2.2.2.2.2.2.2.2.1, i64 s.2.2.2.2.2.2.2.2.2.2.2.2.2.2.2.2.2.2.2.2.2.2.1, .row 6 (s.2.2.2.2.2.2.2.2.2.2.2.2.2.2.2.2.2.2.2.2.2.2.2.2.2.2.2.1).length, .row 7 (s.2.2.2.2.2.2.2.2.2.2.2.2.2.2.2.2.2.2.2.2.2.2.2.2.2.2.2.2).length, i64 s.2.2.2.2.2.2.2.2.2.2.2.2.2.2.2.2.2.2.2.2.2.2.2.1, bo s.2.2.2.2.2.2.2.2.2.2.2.2.2.2.2.2.2.2.2.2.2.2.2.2.1], .blk 123 [.row 5 (s.2.2.2.2.2.2.2.2.2.2.2.2.2.2.2.2.2.2.2.2.2.2.2.2.2.2.1).length, i64 s.2.2.2.2.2.2.2.2.2.2.2.2.2.2.2.2.2.2.2.2.2.2.2.2.2.1], .row 3 1 (encL (eInt .i64) s.2.2.2.2.2.2.2.2.2.2.2.2.2.2.2.2.2.2.2.2.2.2.2.2.2.2.1), .row 3 1 (encL (eInt .i64) s.2.2.2.2.2.2.2.2.2.2.2.2.2.2.2.2.2.2.2.2.2.2.2.2.2.2.2.1), .row 47 5 (encL T_api_Alt.enc s.2.2.2.2.2.2.2.2.2.2.2.2.2.2.2.2.2.2.2.2.2.2.2.2.2.2.2.2)]⟩) (fun s => F_run_Step_J2 s.1 s.2.1 s.2.2.1 s.2.2.2.1 s.2.2.2.2.1 s.2.2.2.2.2.1 s.2.2.2.2.2.2.1 s.2.2.2.2.2.2.2.1 s.2.2.2.2.2.2.2.2.1 s.2.2.2.2.2.2.2.2.2.1 s.2.2.2.2.2.2.2.2.2.2.1 s.2.2.2.2.2.2.2.2.2.2.2.1 s.2.2.2.2.2.2.2.2.2.2.2.2.1 s.2.2.2.2.2.2.2.2.2.2.2.2.2.1 s.2.2.2.2.2.2.2.2.2.2.2.2.2.2.1 s.2.2.2.2.2.2.2.2.2.2.2.2.2.2.2.1 s.2.2.2.2.2.2.2.2.2.2.2.2.2.2.2.2.1 s.2.2.2.2.2.2.2.2.2.2.2.2.2.2.2.2.2.1 s.2.2.2.2.2.2.2.2.2.2.2.2.2.2.2.2.2.2.1 s.2.2.2.2.2.2.2.2.2.2.2.2.2.2.2.2.2.2.2.1 s.2.2.2.2.2.2.2.2.2.2.2.2.2.2.2.2.2.2.2.2.1 s.2.2.2.2.2.2.2.2.2.2.2.2.2.2.2.2.2.2.2.2.2.1 s.2.2.2.2.2.2.2.2.2.2.2.2.2.2.2.2.2.2.2.2.2.2.1 s.2.2.2.2.2.2.2.2.2.2.2.2.2.2.2.2.2.2.2.2.2.2.2.1 s.2.2.2.2.2.2.2.2.2.2.2.2.2.2.2.2.2.2.2.2.2.2.2.2.1 s.2.2.2.2.2.2.2.2.2.2.2.2.2.2.2.2.2.2.2.2.2.2.2.2.2.1 s.2.2.2.2.2.2.2.2.2.2.2.2.2.2.2.2.2.2.2.2.2.2.2.2.2.2.1 s.2.2.2.2.2.2.2.2.2.2.2.2.2.2.2.2.2.2.2.2.2.2.2.2.2.2.2.1 s.2.2.2.2.2.2.2.2.2.2.2.2.2.2.2.2.2.2.2.2.2.2.2.2.2.2.2.2 = some r) ?_ ?_
      · refine At.sR [2, 4, 5, 36, 37] [0, 1, 2, 3, 4, 5] [] ?_
        refine At.block ?_
        refine At.nK (st' := ⟨[(2, .ptr 2 0), (4, .ptr 3 0), (5, .ptr 4 0), (36, i64 ((p0.Ins).length : Int)), (37, i64 0)], [.row 3 1 (encL (eInt .i64) o0), .ghost (gv 0) (.row 0 0), .blk 27 (T_api_Code.pvs p0), .blk 42 [i64 0, i64 0, i64 0, i64 0, i64 0, i64 0, i64 0, .d (.list true 0 []), .d (.list true 0 []), i64 0], .blk 81 (T_api_Code.pvs p0 ++ [i64 p1_0, i64 p1_1, .row 0 (o0).length, i64 p1_3, i64 p1_4, i64 p1_5, i64 p1_6, i64 p1_7, i64 p1_8, i64 p1_9, lv T_api_Alt.enc p1_10, .ptr 5 0, i64 (w64 (p1_1 + 1)), i64 0, i64 y14.A, i64 0, i64 0, i64 0, i64 0, i64 0, .d (.list true 0 []), .d (.list true 0 []), i64 0, bo false]), .blk 123 [.d (.list true 0 []), i64 y13.most]]⟩) [2, 4, 5, 36, 37] [0, 1, 2, 3, 4, 5] ?_
        refine At.edNar [.ownO 5 0 3 1, .ownO 4 25 3 1, .ownO 4 26 47 5] [2, 4, 5, 36, 37] [0, 1, 2, 3, 4, 5, 6, 7, 8] (st' := ⟨[(2, .ptr 2 0), (4, .ptr 3 0), (5, .ptr 4 0), (36, i64 ((p0.Ins).length : Int)), (37, i64 0)], [.row 3 1 (encL (eInt .i64) o0), .ghost (gv 0) (.row 0 0), .blk 27 (T_api_Code.pvs p0), .blk 42 [i64 0, i64 0, i64 0, i64 0, i64 0, i64 0, i64 0, .d (.list true 0 []), .d (.list true 0 []), i64 0], .blk 81 (T_api_Code.pvs p0 ++ [i64 p1_0, i64 p1_1, .row 0 (o0).length, i64 p1_3, i64 p1_4, i64 p1_5, i64 p1_6, i64 p1_7, i64 p1_8, i64 p1_9, lv T_api_Alt.enc p1_10, .ptr 5 0, i64 (w64 (p1_1 + 1)), i64 0, i64 y14.A, i64 0, i64 0, i64 0, i64 0, i64 0, .row 7 ([] : List Int).length, .row 8 ([] : List T_api_Alt).length, i64 0, bo false]), .blk 123 [.row 6 ([] : List Int).length, i64 y13.most], .row 3 1 (encL (eInt .i64) ([])), .row 3 1 (encL (eInt .i64) ([])), .row 47 5 (encL T_api_Alt.enc ([]))]⟩) (by kernel_rfl) ?_
        refine At.lp (fun s : (Int × (List T_api_Ins) × (List T_api_Def) × (List T_api_Chan) × Int × Int × Int × Int × Int × Int × Int × Int × Int × Int × Int × (List T_api_Alt) × Int × Int × Int × Int × Int × Int × Int × Int × Int × Bool × Int × (List Int) × (List Int) × (List T_api_Alt)) => ⟨[(2, .ptr 2 0), (4, .ptr 3 0), (5, .ptr 4 0), (36, i64 ((p0.Ins).length : Int)), (37, i64 s.1)], [.row 3 1 (encL (eInt .i64) o0), .ghost (gv 0) (.row 0 0), .blk 27 (T_api_Code.pvs p0), .blk 42 [i64 0, i64 0, i64 0, i64 0, i64 0, i64 0, i64 0, .d (.list true 0 []), .d (.list true 0 []), i64 0], .blk 81 [lv T_api_Ins.enc s.2.1, lv T_api_Def.enc s.2.2.1, lv T_api_Chan.enc s.2.2.2.1, i64 s.2.2.2.2.1, i64 s.2.2.2.2.2.1, i64 s.2.2.2.2.2.2.1, i64 s.2.2.2.2.2.2.2.1, .row 0 (o0).length, i64 s.2.2.2.2.2.2.2.2.1, i64 s.2.2.2.2.2.2.2.2.2.1, i64 s.2.2.2.2.2.2.2.2.2.2.1, i64 s.2.2.2.2.2.2.2.2.2.2.2.1, i64 s.2.2.2.2.2.2.2.2.2.2.2.2.1, i64 s.2.2.2.2.2.2.2.2.2.2.2.2.2.1, i64 s.2.2.2.2.2.2.2.2.2.2.2.2.2.2.1, lv T_api_Alt.enc s.2.2.2.2.2.2.2.2.2.2.2.2.2.2.2.1, .ptr 5 0, i64 s.2.2.2.2.2.2.2.2.2.2.2.2.2.2.2.2.1, i64 s.2.2.2.2.2.2.2.2.2.2.2.2.2.2.2.2.2.1, i64 s.2.2.2.2.2.2.2.2.2.2.2.2.2.2.2.2.2.2.1, i64 s.2.2.2.2.2.2.2.2.2.2.2.2.2.2.2.2.2.2.2.1, i64 s.2.2.2.2.2.2.2.2.2.2.2.2.2.2.2.2.2.2.2.2.1, i64 s.2.2.2.2.2.2.2.2.2.2.2.2.2.2.2.2.2.2.2.2.2.1, i64 s.2.2.2.2.2.2.2.2.2.2.2.2.2.2.2.2.2.2.2.2.2.2.1, i64 s.2.2.2.2.2.2.2.2.2.2.2.2.2.2.2.2.2.2.2.2.2.2.2.1, .row 7 (s.2.2.2.2.2.2.2.2.2.2.2.2.2.2.2.2.2.2.2.2.2.2.2.2.2.2.2.2.1).length, .row 8 (s.2.2.2.2.2.2.2.2.2.2.2.2.2.2.2.2.2.2.2.2.2.2.2.2.2.2.2.2.2).length, i64 s.2.2.2.2.2.2.2.2.2.2.2.2.2.2.2.2.2.2.2.2.2.2.2.2.1, bo s.2.2.2.2.2.2.2.2.2.2.2.2.2.2.2.2.2.2.2.2.2.2.2.2.2.1], .blk 123 [.row 6 (s.2.2.2.2.2.2.2.2.2.2.2.2.2.2.2.2.2.2.2.2.2.2.2.2.2.2.2.1).length, i64 s.2.2.2.2.2.2.2.2.2.2.2.2.2.2.2.2.2.2.2.2.2.2.2.2.2.2.1], .row 3 1 (encL (eInt .i64) s.2.2.2.2.2.2.2.2.2.2.2.2.2.2.2.2.2.2.2.2.2.2.2.2.2.2.2.1), .row 3 1 (encL (eInt .i64) s.2.2.2.2.2.2.2.2.2.2.2.2.2.2.2.2.2.2.2.2.2.2.2.2.2.2.2.2.1), .row 47 5 (encL T_api_Alt.enc s.2.2.2.2.2.2.2.2.2.2.2.2.2.2.2.2.2.2.2.2.2.2.2.2.2.2.2.2.2)]⟩) h ?_
        rintro ⟨x155, x156, x157, x158, x159, x160, x161, x162, x163, x164, x165, x166, x167, x168, x169, x170, x171, x172, x173, x174, x175, x176, x177, x178, x179, x180, x181, x182, x183, x184⟩ oo185 h f186
        replace h : F_run_Step_L5 p0 o0 x155 x156 x157 x158 x159 x160 x161 x162 x163 x164 x165 x166 x167 x168 x169 x170 x171 x172 x173 x174 x175 x176 x177 x178 x179 x180 x181 x182 x183 x184 = some oo185 := h
        refine At.sR [2, 4, 5, 36, 37, 38] [0, 1, 2, 3, 4, 5, 6, 7, 8] [] ?_
        refine At.seq ?_
        refine At.cd h (fun b188 h => ?_) (fun b188 h => ?_)
        · refine At.nR [2, 4, 5, 36, 37] [0, 1, 2, 3, 4, 5, 6, 7, 8] ?_
          refine At.skip (norm ?_)
          refine At.seqJ (S := (List T_api_Ins) × (List T_api_Def) × (List T_api_Chan) × Int × Int × Int × Int × Int × Int × Int × Int × Int × Int × Int × (List T_api_Alt) × Int × Int × Int × Int × Int × Int × Int × Int × Int × Bool × Int × (List Int) × (List Int) × (List T_api_Alt)) (fun s => ⟨[(2, .ptr 2 0), (4, .ptr 3 0), (5, .ptr 4 0), (36, i64 ((p0.Ins).length : Int)), (37, i64 x155)], [.row 3 1 (encL (eInt .i64) o0), .ghost (gv 0) (.row 0 0), .blk 27 (T_api_Code.pvs p0), .blk 42 [i64 0, i64 0, i64 0, i64 0, i64 0, i64 0, i64 0, .d (.list true 0 []), .d (.list true 0 []), i64 0], .blk 81 [lv T_api_Ins.enc s.1, lv T_api_Def.enc s.2.1, lv T_api_Chan.enc s.2.2.1, i64 s.2.2.2.1, i64 s.2.2.2.2.1, i64 s.2.2.2.2.2.1, i64 s.2.2.2.2.2.2.1, .row 0 (o0).length, i64 s.2.2.2.2.2.2.2.1, i64 s.2.2.2.2.2.2.2.2.1, i64 s.2.2.2.2.2.2.2.2.2.1, i64 s.2.2.2.2.2.2.2.2.2.2.1, i64 s.2.2.2.2.2.2.2.2.2.2.2.1, i64 s.2.2.2.2.2.2.2.2.2.2.2.2.1, i64 s.2.2.2.2.2.2.2.2.2.2.2.2.2.1, lv T_api_Alt.enc s.2.2.2.2.2.2.2.2.2.2.2.2.2.2.1, .ptr 5 0, i64 s.2.2.2.2.2.2.2.2.2.2.2.2.2.2.2.1, i64 s.2.2.2.2.2.2.2.2.2.2.2.2.2.2.2.2.1, i64 s.2.2.2.2.2.2.2.2.2.2.2.2.2.2.2.2.2.1, i64 s.2.2.2.2.2.2.2.2.2.2.2.2.2.2.2.2.2.2.1, i64 s.2.2.2.2.2.2.2.2.2.2.2.2.2.2.2.2.2.2.2.1, i64 s.2.2.2.2.2.2.2.2.2.2.2.2.2.2.2.2.2.2.2.2.1, i64 s.2.2.2.2.2.2.2.2.2.2.2.2.2.2.2.2.2.2.2.2.2.1, i64 s.2.2.2.2.2.2.2.2.2.2.2.2.2.2.2.2.2.2.2.2.2.2.1, .row 7 (s.2.2.2.2.2.2.2.2.2.2.2.2.2.2.2.2.2.2.2.2.2.2.2.2.2.2.2.1).length, .row 8 (s.2.2.2.2.2.2.2.2.2.2.2.2.2.2.2.2.2.2.2.2.2.2.2.2.2.2.2.2).length, i64 s.2.2.2.2.2.2.2.2.2.2.2.2.2.2.2.2.2.2.2.2.2.2.2.1, bo s.2.2.2.2.2.2.2.2.2.2.2.2.2.2.2.2.2.2.2.2.2.2.2.2.1], .blk 123 [.row 6 (s.2.2.2.2.2.2.2.2.2.2.2.2.2.2.2.2.2.2.2.2.2.2.2.2.2.2.1).length, i64 s.2.2.2.2.2.2.2.2.2.2.2.2.2.2.2.2.2.2.2.2.2.2.2.2.2.1], .row 3 1 (encL (eInt .i64) s.2.2.2.2.2.2.2.2.2.2.2.2.2.2.2.2.2.2.2.2.2.2.2.2.2.2.1), .row 3 1 (encL (eInt .i64) s.2.2.2.2.2.2.2.2.2.2.2.2.2.2.2.2.2.2.2.2.2.2.2.2.2.2.2.1), .row 47 5 (encL T_api_Alt.enc s.2.2.2.2.2.2.2.2.2.2.2.2.2.2.2.2.2.2.2.2.2.2.2.2.2.2.2.2)]⟩) (fun s => F_run_Step_J3 x155 s.1 s.2.1 s.2.2.1 s.2.2.2.1 s.2.2.2.2.1 s.2.2.2.2.2.1 s.2.2.2.2.2.2.1 s.2.2.2.2.2.2.2.1 s.2.2.2.2.2.2.2.2.1 s.2.2.2.2.2.2.2.2.2.1 s.2.2.2.2.2.2.2.2.2.2.1 s.2.2.2.2.2.2.2.2.2.2.2.1 s.2.2.2.2.2.2.2.2.2.2.2.2.1 s.2.2.2.2.2.2.2.2.2.2.2.2.2.1 s.2.2.2.2.2.2.2.2.2.2.2.2.2.2.1 s.2.2.2.2.2.2.2.2.2.2.2.2.2.2.2.1 s.2.2.2.2.2.2.2.2.2.2.2.2.2.2.2.2.1 s.2.2.2.2.2.2.2.2.2.2.2.2.2.2.2.2.2.1 s.2.2.2.2.2.2.2.2.2.2.2.2.2.2.2.2.2.2.1 s.2.2.2.2.2.2.2.2.2.2.2.2.2.2.2.2.2.2.2.1 s.2.2.2.2.2.2.2.2.2.2.2.2.2.2.2.2.2.2.2.2.1 s.2.2.2.2.2.2.2.2.2.2.2.2.2.2.2.2.2.2.2.2.2.1 s.2.2.2.2.2.2.2.2.2.2.2.2.2.2.2.2.2.2.2.2.2.2.1 s.2.2.2.2.2.2.2.2.2.2.2.2.2.2.2.2.2.2.2.2.2.2.2.1 s.2.2.2.2.2.2.2.2.2.2.2.2.2.2.2.2.2.2.2.2.2.2.2.2.1 s.2.2.2.2.2.2.2.2.2.2.2.2.2.2.2.2.2.2.2.2.2.2.2.2.2.1 s.2.2.2.2.2.2.2.2.2.2.2.2.2.2.2.2.2.2.2.2.2.2.2.2.2.2.1 s.2.2.2.2.2.2.2.2.2.2.2.2.2.2.2.2.2.2.2.2.2.2.2.2.2.2.2.1 s.2.2.2.2.2.2.2.2.2.2.2.2.2.2.2.2.2.2.2.2.2.2.2.2.2.2.2.2 = some oo185) ?_ ?_
          · refine At.block ?_
            refine At.seq ?_
            refine At.seqJ (S := Bool) (fun s => ⟨[(2, .ptr 2 0), (4, .ptr 3 0), (5, .ptr 4 0), (36, i64 ((p0.Ins).length : Int)), (37, i64 x155), (59, bo s)], [.row 3 1 (encL (eInt .i64) o0), .ghost (gv 0) (.row 0 0), .blk 27 (T_api_Code.pvs p0), .blk 42 [i64 0, i64 0, i64 0, i64 0, i64 0, i64 0, i64 0, .d (.list true 0 []), .d (.list true 0 []), i64 0], .blk 81 [lv T_api_Ins.enc x156, lv T_api_Def.enc x157, lv T_api_Chan.enc x158, i64 x159, i64 x160, i64 x161, i64 x162, .row 0 (o0).length, i64 x163, i64 x164, i64 x165, i64 x166, i64 x167, i64 x168, i64 x169, lv T_api_Alt.enc x170, .ptr 5 0, i64 x171, i64 x172, i64 x173, i64 x174, i64 x175, i64 x176, i64 x177, i64 x178, .row 7 (x183).length, .row 8 (x184).length, i64 x179, bo x180], .blk 123 [.row 6 (x182).length, i64 x181], .row 3 1 (encL (eInt .i64) x182), .row 3 1 (encL (eInt .i64) x183), .row 47 5 (encL T_api_Alt.enc x184)]⟩) (fun s => F_run_Step_J4 p0 o0 x155 x156 x157 x158 x159 x160 x161 x162 x163 x164 x165 x166 x167 x168 x169 x170 x171 x172 x173 x174 x175 x176 x177 x178 x179 x180 x181 x182 x183 x184 s = some oo185) ?_ ?_
            · rcases cs h with ⟨b262, h⟩ | ⟨b262, h⟩
              · exact At.dK 0 [2, 4, 5, 36, 37, 59] [0, 1, 2, 3, 4, 5, 6, 7, 8] [bT 4 b262] fun _ _ i => ⟨true, h, i⟩
              · rcases cs h with ⟨b263, h⟩ | ⟨b263, h⟩
                · exact At.dK 0 [2, 4, 5, 36, 37, 59] [0, 1, 2, 3, 4, 5, 6, 7, 8] [bT 4 b262, bT 11 b263] fun _ _ i => ⟨true, h, i⟩
                · exact At.dK 0 [2, 4, 5, 36, 37, 59] [0, 1, 2, 3, 4, 5, 6, 7, 8] [bT 4 b262, bT 11 b263] fun _ _ i => ⟨(decide (((p0.Ins).length : Int) ≤ x171)), h, i⟩
            · intro x248 h
              refine At.cd h (fun b249 h => ?_) (fun b249 h => ?_)
              · refine At.nR [4, 5] [0, 1, 3, 4, 5, 6, 7, 8] ?_
                obtain ⟨r250, h, e251⟩ := mr h
                rw [f186 _ e251] at h
                refine At.exit (fun _ _ i => ⟨(x156, x157, x158, x159, x160, x161, x162, x163, x164, x165, x166, x167, x168, x169, x170, x171, x172, x173, x174, x175, x176, x177, x178, x179, x180, x181, x182, x183, x184), h, i.en [] [4, 5] [0, 1, 2, 3, 4, 5, 6, 7]⟩)
              · refine At.nR [2, 4, 5, 36, 37] [0, 1, 2, 3, 4, 5, 6, 7, 8] ?_
                refine At.skip (norm ?_)
                refine At.sR [2, 4, 5, 6, 36, 37] [0, 1, 2, 3, 4, 5, 6, 7, 8] [] ?_
                refine At.sR [2, 4, 5, 6, 36, 37] [0, 1, 2, 3, 4, 5, 6, 7, 8] [] ?_
                obtain ⟨y254, hy254, h⟩ := bs h
                obtain ⟨y255, hy255, h⟩ := bs h
                refine At.sR [2, 4, 5, 6, 36, 37, 78] [0, 1, 2, 3, 4, 5, 6, 7, 8] [eT T_api_Ins.enc_len 4 hy254, cT 6 6 [4, 0, 5, 6, 7, 8] (C_run_runner_reckons y254 x156 x157 x158 x159 x160 x161 x162 x163 x164 x165 x166 x167 x168 x169 x170 (w64 (x171 + 1)) x172 x173 x174 x175 x176 x177 x178 x179 x180 (⟨x182, x181⟩ : T_stack_Stack_int_) o0 x183 x184 y255 hy255)] ?_
                refine At.cd h (fun b256 h => ?_) (fun b256 h => ?_)
                · obtain ⟨y257, hy257, h⟩ := bs h
                  obtain ⟨y258, hy258, h⟩ := bs h
                  rcases y258 with y259 | (y260 | y261)
                  · exact At.rK [2, 4, 5, 36, 37] [0, 1, 2, 3, 4, 5, 6, 7, 9] [eT T_api_Ins.enc_len 4 hy257, cT 7 6 [4, 0, 5, 6, 7, 8, 9] (C_run_runner_ends y257 x171 y255.2.1 y255.2.2.1 y255.2.2.2.1 y255.2.2.2.2.1 y255.2.2.2.2.2.1 y255.2.2.2.2.2.2.1 y255.2.2.2.2.2.2.2.1 y255.2.2.2.2.2.2.2.2.1 y255.2.2.2.2.2.2.2.2.2.1 y255.2.2.2.2.2.2.2.2.2.2.1 y255.2.2.2.2.2.2.2.2.2.2.2.1 y255.2.2.2.2.2.2.2.2.2.2.2.2.1 y255.2.2.2.2.2.2.2.2.2.2.2.2.2.1 y255.2.2.2.2.2.2.2.2.2.2.2.2.2.2.1 y255.2.2.2.2.2.2.2.2.2.2.2.2.2.2.2.1 y255.2.2.2.2.2.2.2.2.2.2.2.2.2.2.2.2.1 y255.2.2.2.2.2.2.2.2.2.2.2.2.2.2.2.2.2.1 y255.2.2.2.2.2.2.2.2.2.2.2.2.2.2.2.2.2.2.1 y255.2.2.2.2.2.2.2.2.2.2.2.2.2.2.2.2.2.2.2.1 y255.2.2.2.2.2.2.2.2.2.2.2.2.2.2.2.2.2.2.2.2.1 y255.2.2.2.2.2.2.2.2.2.2.2.2.2.2.2.2.2.2.2.2.2.1 y255.2.2.2.2.2.2.2.2.2.2.2.2.2.2.2.2.2.2.2.2.2.2.1 y255.2.2.2.2.2.2.2.2.2.2.2.2.2.2.2.2.2.2.2.2.2.2.2.1 y255.2.2.2.2.2.2.2.2.2.2.2.2.2.2.2.2.2.2.2.2.2.2.2.2.1 y255.2.2.2.2.2.2.2.2.2.2.2.2.2.2.2.2.2.2.2.2.2.2.2.2.2.1 y255.2.2.2.2.2.2.2.2.2.2.2.2.2.2.2.2.2.2.2.2.2.2.2.2.2.2.1 o0 y255.2.2.2.2.2.2.2.2.2.2.2.2.2.2.2.2.2.2.2.2.2.2.2.2.2.2.2.1 y255.2.2.2.2.2.2.2.2.2.2.2.2.2.2.2.2.2.2.2.2.2.2.2.2.2.2.2.2 (.inl y259) hy258)] fun _ _ i => ⟨(y259.1, y259.2.1, y259.2.2.1, y259.2.2.2.1, y259.2.2.2.2.1, y259.2.2.2.2.2.1, y259.2.2.2.2.2.2.1, y259.2.2.2.2.2.2.2.1, y259.2.2.2.2.2.2.2.2.1, y259.2.2.2.2.2.2.2.2.2.1, y259.2.2.2.2.2.2.2.2.2.2.1, y259.2.2.2.2.2.2.2.2.2.2.2.1, y259.2.2.2.2.2.2.2.2.2.2.2.2.1, y259.2.2.2.2.2.2.2.2.2.2.2.2.2.1, y259.2.2.2.2.2.2.2.2.2.2.2.2.2.2.1, y259.2.2.2.2.2.2.2.2.2.2.2.2.2.2.2.1, y259.2.2.2.2.2.2.2.2.2.2.2.2.2.2.2.2.1, y259.2.2.2.2.2.2.2.2.2.2.2.2.2.2.2.2.2.1, y259.2.2.2.2.2.2.2.2.2.2.2.2.2.2.2.2.2.2.1, y259.2.2.2.2.2.2.2.2.2.2.2.2.2.2.2.2.2.2.2.1, y259.2.2.2.2.2.2.2.2.2.2.2.2.2.2.2.2.2.2.2.2.1, y259.2.2.2.2.2.2.2.2.2.2.2.2.2.2.2.2.2.2.2.2.2.1, y259.2.2.2.2.2.2.2.2.2.2.2.2.2.2.2.2.2.2.2.2.2.2.1, y259.2.2.2.2.2.2.2.2.2.2.2.2.2.2.2.2.2.2.2.2.2.2.2.1, y259.2.2.2.2.2.2.2.2.2.2.2.2.2.2.2.2.2.2.2.2.2.2.2.2.1, y259.2.2.2.2.2.2.2.2.2.2.2.2.2.2.2.2.2.2.2.2.2.2.2.2.2.1.most, y259.2.2.2.2.2.2.2.2.2.2.2.2.2.2.2.2.2.2.2.2.2.2.2.2.2.1.l, y259.2.2.2.2.2.2.2.2.2.2.2.2.2.2.2.2.2.2.2.2.2.2.2.2.2.2.1, y259.2.2.2.2.2.2.2.2.2.2.2.2.2.2.2.2.2.2.2.2.2.2.2.2.2.2.2), h, i⟩
                  · exact At.rK [2, 4, 5, 36, 37] [0, 1, 2, 3, 4, 5, 6, 9, 8] [eT T_api_Ins.enc_len 4 hy257, cT 7 6 [4, 0, 5, 6, 7, 8, 9] (C_run_runner_ends y257 x171 y255.2.1 y255.2.2.1 y255.2.2.2.1 y255.2.2.2.2.1 y255.2.2.2.2.2.1 y255.2.2.2.2.2.2.1 y255.2.2.2.2.2.2.2.1 y255.2.2.2.2.2.2.2.2.1 y255.2.2.2.2.2.2.2.2.2.1 y255.2.2.2.2.2.2.2.2.2.2.1 y255.2.2.2.2.2.2.2.2.2.2.2.1 y255.2.2.2.2.2.2.2.2.2.2.2.2.1 y255.2.2.2.2.2.2.2.2.2.2.2.2.2.1 y255.2.2.2.2.2.2.2.2.2.2.2.2.2.2.1 y255.2.2.2.2.2.2.2.2.2.2.2.2.2.2.2.1 y255.2.2.2.2.2.2.2.2.2.2.2.2.2.2.2.2.1 y255.2.2.2.2.2.2.2.2.2.2.2.2.2.2.2.2.2.1 y255.2.2.2.2.2.2.2.2.2.2.2.2.2.2.2.2.2.2.1 y255.2.2.2.2.2.2.2.2.2.2.2.2.2.2.2.2.2.2.2.1 y255.2.2.2.2.2.2.2.2.2.2.2.2.2.2.2.2.2.2.2.2.1 y255.2.2.2.2.2.2.2.2.2.2.2.2.2.2.2.2.2.2.2.2.2.1 y255.2.2.2.2.2.2.2.2.2.2.2.2.2.2.2.2.2.2.2.2.2.2.1 y255.2.2.2.2.2.2.2.2.2.2.2.2.2.2.2.2.2.2.2.2.2.2.2.1 y255.2.2.2.2.2.2.2.2.2.2.2.2.2.2.2.2.2.2.2.2.2.2.2.2.1 y255.2.2.2.2.2.2.2.2.2.2.2.2.2.2.2.2.2.2.2.2.2.2.2.2.2.1 y255.2.2.2.2.2.2.2.2.2.2.2.2.2.2.2.2.2.2.2.2.2.2.2.2.2.2.1 o0 y255.2.2.2.2.2.2.2.2.2.2.2.2.2.2.2.2.2.2.2.2.2.2.2.2.2.2.2.1 y255.2.2.2.2.2.2.2.2.2.2.2.2.2.2.2.2.2.2.2.2.2.2.2.2.2.2.2.2 (.inr (.inl y260)) hy258)] fun _ _ i => ⟨(y260.1, y260.2.1, y260.2.2.1, y260.2.2.2.1, y260.2.2.2.2.1, y260.2.2.2.2.2.1, y260.2.2.2.2.2.2.1, y260.2.2.2.2.2.2.2.1, y260.2.2.2.2.2.2.2.2.1, y260.2.2.2.2.2.2.2.2.2.1, y260.2.2.2.2.2.2.2.2.2.2.1, y260.2.2.2.2.2.2.2.2.2.2.2.1, y260.2.2.2.2.2.2.2.2.2.2.2.2.1, y260.2.2.2.2.2.2.2.2.2.2.2.2.2.1, y260.2.2.2.2.2.2.2.2.2.2.2.2.2.2.1, y260.2.2.2.2.2.2.2.2.2.2.2.2.2.2.2.1, y260.2.2.2.2.2.2.2.2.2.2.2.2.2.2.2.2.1, y260.2.2.2.2.2.2.2.2.2.2.2.2.2.2.2.2.2.1, y260.2.2.2.2.2.2.2.2.2.2.2.2.2.2.2.2.2.2.1, y260.2.2.2.2.2.2.2.2.2.2.2.2.2.2.2.2.2.2.2.1, y260.2.2.2.2.2.2.2.2.2.2.2.2.2.2.2.2.2.2.2.2.1, y260.2.2.2.2.2.2.2.2.2.2.2.2.2.2.2.2.2.2.2.2.2.1, y260.2.2.2.2.2.2.2.2.2.2.2.2.2.2.2.2.2.2.2.2.2.2.1, y260.2.2.2.2.2.2.2.2.2.2.2.2.2.2.2.2.2.2.2.2.2.2.2.1, y260.2.2.2.2.2.2.2.2.2.2.2.2.2.2.2.2.2.2.2.2.2.2.2.2.1, y260.2.2.2.2.2.2.2.2.2.2.2.2.2.2.2.2.2.2.2.2.2.2.2.2.2.1.most, y260.2.2.2.2.2.2.2.2.2.2.2.2.2.2.2.2.2.2.2.2.2.2.2.2.2.1.l, y260.2.2.2.2.2.2.2.2.2.2.2.2.2.2.2.2.2.2.2.2.2.2.2.2.2.2.2, y260.2.2.2.2.2.2.2.2.2.2.2.2.2.2.2.2.2.2.2.2.2.2.2.2.2.2.1), h, i⟩
                  · exact At.rK [2, 4, 5, 36, 37] [0, 1, 2, 3, 4, 5, 6, 7, 8] [eT T_api_Ins.enc_len 4 hy257, cT 7 6 [4, 0, 5, 6, 7, 8] (C_run_runner_ends y257 x171 y255.2.1 y255.2.2.1 y255.2.2.2.1 y255.2.2.2.2.1 y255.2.2.2.2.2.1 y255.2.2.2.2.2.2.1 y255.2.2.2.2.2.2.2.1 y255.2.2.2.2.2.2.2.2.1 y255.2.2.2.2.2.2.2.2.2.1 y255.2.2.2.2.2.2.2.2.2.2.1 y255.2.2.2.2.2.2.2.2.2.2.2.1 y255.2.2.2.2.2.2.2.2.2.2.2.2.1 y255.2.2.2.2.2.2.2.2.2.2.2.2.2.1 y255.2.2.2.2.2.2.2.2.2.2.2.2.2.2.1 y255.2.2.2.2.2.2.2.2.2.2.2.2.2.2.2.1 y255.2.2.2.2.2.2.2.2.2.2.2.2.2.2.2.2.1 y255.2.2.2.2.2.2.2.2.2.2.2.2.2.2.2.2.2.1 y255.2.2.2.2.2.2.2.2.2.2.2.2.2.2.2.2.2.2.1 y255.2.2.2.2.2.2.2.2.2.2.2.2.2.2.2.2.2.2.2.1 y255.2.2.2.2.2.2.2.2.2.2.2.2.2.2.2.2.2.2.2.2.1 y255.2.2.2.2.2.2.2.2.2.2.2.2.2.2.2.2.2.2.2.2.2.1 y255.2.2.2.2.2.2.2.2.2.2.2.2.2.2.2.2.2.2.2.2.2.2.1 y255.2.2.2.2.2.2.2.2.2.2.2.2.2.2.2.2.2.2.2.2.2.2.2.1 y255.2.2.2.2.2.2.2.2.2.2.2.2.2.2.2.2.2.2.2.2.2.2.2.2.1 y255.2.2.2.2.2.2.2.2.2.2.2.2.2.2.2.2.2.2.2.2.2.2.2.2.2.1 y255.2.2.2.2.2.2.2.2.2.2.2.2.2.2.2.2.2.2.2.2.2.2.2.2.2.2.1 o0 y255.2.2.2.2.2.2.2.2.2.2.2.2.2.2.2.2.2.2.2.2.2.2.2.2.2.2.2.1 y255.2.2.2.2.2.2.2.2.2.2.2.2.2.2.2.2.2.2.2.2.2.2.2.2.2.2.2.2 (.inr (.inr y261)) hy258)] fun _ _ i => ⟨(y261.1, y261.2.1, y261.2.2.1, y261.2.2.2.1, y261.2.2.2.2.1, y261.2.2.2.2.2.1, y261.2.2.2.2.2.2.1, y261.2.2.2.2.2.2.2.1, y261.2.2.2.2.2.2.2.2.1, y261.2.2.2.2.2.2.2.2.2.1, y261.2.2.2.2.2.2.2.2.2.2.1, y261.2.2.2.2.2.2.2.2.2.2.2.1, y261.2.2.2.2.2.2.2.2.2.2.2.2.1, y261.2.2.2.2.2.2.2.2.2.2.2.2.2.1, y261.2.2.2.2.2.2.2.2.2.2.2.2.2.2.1, y261.2.2.2.2.2.2.2.2.2.2.2.2.2.2.2.1, y261.2.2.2.2.2.2.2.2.2.2.2.2.2.2.2.2.1, y261.2.2.2.2.2.2.2.2.2.2.2.2.2.2.2.2.2.1, y261.2.2.2.2.2.2.2.2.2.2.2.2.2.2.2.2.2.2.1, y261.2.2.2.2.2.2.2.2.2.2.2.2.2.2.2.2.2.2.2.1, y261.2.2.2.2.2.2.2.2.2.2.2.2.2.2.2.2.2.2.2.2.1, y261.2.2.2.2.2.2.2.2.2.2.2.2.2.2.2.2.2.2.2.2.2.1, y261.2.2.2.2.2.2.2.2.2.2.2.2.2.2.2.2.2.2.2.2.2.2.1, y261.2.2.2.2.2.2.2.2.2.2.2.2.2.2.2.2.2.2.2.2.2.2.2.1, y261.2.2.2.2.2.2.2.2.2.2.2.2.2.2.2.2.2.2.2.2.2.2.2.2.1, y255.2.2.2.2.2.2.2.2.2.2.2.2.2.2.2.2.2.2.2.2.2.2.2.2.2.2.1.most, y255.2.2.2.2.2.2.2.2.2.2.2.2.2.2.2.2.2.2.2.2.2.2.2.2.2.2.1.l, y255.2.2.2.2.2.2.2.2.2.2.2.2.2.2.2.2.2.2.2.2.2.2.2.2.2.2.2.1, y261.2.2.2.2.2.2.2.2.2.2.2.2.2.2.2.2.2.2.2.2.2.2.2.2.2), h, i⟩
                · refine At.nR [2, 4, 5, 36, 37] [0, 1, 2, 3, 4, 5, 6, 7, 8] ?_
                  refine At.skip (fun _ _ i => ⟨(y255.2.1, y255.2.2.1, y255.2.2.2.1, y255.2.2.2.2.1, y255.2.2.2.2.2.1, y255.2.2.2.2.2.2.1, y255.2.2.2.2.2.2.2.1, y255.2.2.2.2.2.2.2.2.1, y255.2.2.2.2.2.2.2.2.2.1, y255.2.2.2.2.2.2.2.2.2.2.1, y255.2.2.2.2.2.2.2.2.2.2.2.1, y255.2.2.2.2.2.2.2.2.2.2.2.2.1, y255.2.2.2.2.2.2.2.2.2.2.2.2.2.1, y255.2.2.2.2.2.2.2.2.2.2.2.2.2.2.1, y255.2.2.2.2.2.2.2.2.2.2.2.2.2.2.2.1, y255.2.2.2.2.2.2.2.2.2.2.2.2.2.2.2.2.1, y255.2.2.2.2.2.2.2.2.2.2.2.2.2.2.2.2.2.1, y255.2.2.2.2.2.2.2.2.2.2.2.2.2.2.2.2.2.2.1, y255.2.2.2.2.2.2.2.2.2.2.2.2.2.2.2.2.2.2.2.1, y255.2.2.2.2.2.2.2.2.2.2.2.2.2.2.2.2.2.2.2.2.1, y255.2.2.2.2.2.2.2.2.2.2.2.2.2.2.2.2.2.2.2.2.2.1, y255.2.2.2.2.2.2.2.2.2.2.2.2.2.2.2.2.2.2.2.2.2.2.1, y255.2.2.2.2.2.2.2.2.2.2.2.2.2.2.2.2.2.2.2.2.2.2.2.1, y255.2.2.2.2.2.2.2.2.2.2.2.2.2.2.2.2.2.2.2.2.2.2.2.2.1, y255.2.2.2.2.2.2.2.2.2.2.2.2.2.2.2.2.2.2.2.2.2.2.2.2.2.1, y255.2.2.2.2.2.2.2.2.2.2.2.2.2.2.2.2.2.2.2.2.2.2.2.2.2.2.1.most, y255.2.2.2.2.2.2.2.2.2.2.2.2.2.2.2.2.2.2.2.2.2.2.2.2.2.2.1.l, y255.2.2.2.2.2.2.2.2.2.2.2.2.2.2.2.2.2.2.2.2.2.2.2.2.2.2.2.1, y255.2.2.2.2.2.2.2.2.2.2.2.2.2.2.2.2.2.2.2.2.2.2.2.2.2.2.2.2), h, i.en [] [2, 4, 5, 36, 37] [0, 1, 2, 3, 4, 5, 6, 7, 8]⟩)
          · rintro ⟨x211, x212, x213, x214, x215, x216, x217, x218, x219, x220, x221, x222, x223, x224, x225, x226, x227, x228, x229, x230, x231, x232, x233, x234, x235, x236, x237, x238, x239⟩ h
            replace h : F_run_Step_J3 x155 x211 x212 x213 x214 x215 x216 x217 x218 x219 x220 x221 x222 x223 x224 x225 x226 x227 x228 x229 x230 x231 x232 x233 x234 x235 x236 x237 x238 x239 = some oo185 := h
            exact At.rK [2, 4, 5, 36, 37] [0, 1, 2, 3, 4, 5, 6, 7, 8] [] fun _ _ i => ⟨_, li h, i⟩
        · refine At.nR [4, 5] [0, 1, 3, 4, 5, 6, 7, 8] ?_
          obtain ⟨r264, h, e265⟩ := mr h
          rw [f186 _ e265] at h
          refine At.exit (fun _ _ i => ⟨(x156, x157, x158, x159, x160, x161, x162, x163, x164, x165, x166, x167, x168, x169, x170, x171, x172, x173, x174, x175, x176, x177, x178, x179, x180, x181, x182, x183, x184), h, i.en [] [4, 5] [0, 1, 2, 3, 4, 5, 6, 7]⟩)
      · rintro ⟨x126, x127, x128, x129, x130, x131, x132, x133, x134, x135, x136, x137, x138, x139, x140, x141, x142, x143, x144, x145, x146, x147, x148, x149, x150, x151, x152, x153, x154⟩ h
        replace h : F_run_Step_J2 x126 x127 x128 x129 x130 x131 x132 x133 x134 x135 x136 x137 x138 x139 x140 x141 x142 x143 x144 x145 x146 x147 x148 x149 x150 x151 x152 x153 x154 = some r := h
        refine At.sR [4] [0, 1, 2, 6, 7] [] ?_
        refine At.eN [.settle 3, .settle 4] [4] [0, 1, 2] ?_
        obtain rfl := sq h
        exact At.ret (At.rR hR [0])
theorem C_slices_Equal_int_int (p0 : (List Int)) (p1 : (List Int)) (r : Bool) (h : F_slices_Equal_int_int p0 p1 = some r) : FnOK Tryz.prog 35 [lv (eInt .i64) p0, lv (eInt .i64) p1] [] (bo r) [] [] := by
  refine fI Tryz.func35 rfl fun E gv R hR => ?_
  refine At.sR [0, 1] [] [] ?_
  refine At.seq ?_
  refine At.sR [0, 1, 10] [] [] ?_
  refine At.cd h (fun b2 h => ?_) (fun b2 h => ?_)
  · refine At.sR [4] [] [] ?_
    obtain rfl := sq h
    exact At.ret (At.rR hR [])
  · refine At.nR [0, 1] [] ?_
    refine At.skip (norm ?_)
    refine At.seq ?_
    refine At.sR [0, 1, 12, 13] [] [] ?_
    refine At.block ?_
    refine At.nK (st' := ⟨[(0, lv (eInt .i64) p0), (1, lv (eInt .i64) p1), (12, i64 ((p0).length : Int)), (13, i64 0)], []⟩) [0, 1, 12, 13] [] ?_
    refine At.lp (fun s : (Int) => ⟨[(0, lv (eInt .i64) p0), (1, lv (eInt .i64) p1), (12, i64 ((p0).length : Int)), (13, i64 s)], []⟩) h ?_
    intro x22 oo23 h f24
    replace h : F_slices_Equal_int_int_L1 p0 p1 x22 = some oo23 := h
    refine At.sR [0, 1, 12, 13, 14] [] [] ?_
    refine At.seq ?_
    refine At.cd h (fun b26 h => ?_) (fun b26 h => ?_)
    · refine At.nR [0, 1, 12, 13] [] ?_
      refine At.skip (norm ?_)
      refine At.seq ?_
      refine At.block ?_
      refine At.sR [0, 1, 5, 12, 13] [] [] ?_
      obtain ⟨y34, hy34, h⟩ := bs h
      obtain ⟨y35, hy35, h⟩ := bs h
      refine At.sD 0 [0, 1, 12, 13, 24] [] [eT (he_int .i64) 2 hy34, eT (he_int .i64) 6 hy35] ?_
      refine At.cd h (fun b36 h => ?_) (fun b36 h => ?_)
      · refine At.sR [4] [] [] ?_
        obtain ⟨r37, h, e38⟩ := mr h
        rw [f24 _ e38] at h
        obtain rfl := sq h
        exact At.ret (At.rR hR [])
      · refine At.nR [0, 1, 12, 13] [] ?_
        refine At.skip (norm ?_)
        exact At.rK [0, 1, 12, 13] [] [] fun _ _ i => ⟨_, li h, i⟩
    · refine At.nR [] [] ?_
      obtain ⟨r39, h, e40⟩ := mr h
      rw [f24 _ e40] at h
      refine At.exit (norm ?_)
      refine At.sR [4] [] [] ?_
      obtain rfl := sq h
      exact At.ret (At.rR hR [])
theorem C_slices_Equal_retrace_api_Alt_retrace_api_Alt (p0 : (List T_api_Alt)) (p1 : (List T_api_Alt)) (r : Bool) (h : F_slices_Equal_retrace_api_Alt_retrace_api_Alt p0 p1 = some r) : FnOK Tryz.prog 36 [lv T_api_Alt.enc p0, lv T_api_Alt.enc p1] [] (bo r) [] [] := by
  refine fI Tryz.func36 rfl fun E gv R hR => ?_
  refine At.sR [0, 1] [] [] ?_
  refine At.seq ?_
  refine At.sR [0, 1, 10] [] [] ?_
  refine At.cd h (fun b2 h => ?_) (fun b2 h => ?_)
  · refine At.sR [4] [] [] ?_
    obtain rfl := sq h
    exact At.ret (At.rR hR [])
  · refine At.nR [0, 1] [] ?_
    refine At.skip (norm ?_)
    refine At.seq ?_
    refine At.sR [0, 1, 12, 13] [] [] ?_
    refine At.block ?_
    refine At.nK (st' := ⟨[(0, lv T_api_Alt.enc p0), (1, lv T_api_Alt.enc p1), (12, i64 ((p0).length : Int)), (13, i64 0)], []⟩) [0, 1, 12, 13] [] ?_
    refine At.lp (fun s : (Int) => ⟨[(0, lv T_api_Alt.enc p0), (1, lv T_api_Alt.enc p1), (12, i64 ((p0).length : Int)), (13, i64 s)], []⟩) h ?_
    intro x22 oo23 h f24
    replace h : F_slices_Equal_retrace_api_Alt_retrace_api_Alt_L1 p0 p1 x22 = some oo23 := h
    refine At.sR [0, 1, 12, 13, 14] [] [] ?_
    refine At.seq ?_
    refine At.cd h (fun b26 h => ?_) (fun b26 h => ?_)
    · refine At.nR [0, 1, 12, 13] [] ?_
      refine At.skip (norm ?_)
      refine At.seq ?_
      refine At.block ?_
      refine At.sR [0, 1, 5, 12, 13] [] [] ?_
      obtain ⟨y34, hy34, h⟩ := bs h
      obtain ⟨y35, hy35, h⟩ := bs h
      refine At.sD 0 [0, 1, 12, 13, 24] [] [eT T_api_Alt.enc_len 2 hy34, eT T_api_Alt.enc_len 6 hy35] ?_
      refine At.cd h (fun b36 h => ?_) (fun b36 h => ?_)
      · refine At.sR [4] [] [] ?_
        obtain ⟨r37, h, e38⟩ := mr h
        rw [f24 _ e38] at h
        obtain rfl := sq h
        exact At.ret (At.rR hR [])
      · refine At.nR [0, 1, 12, 13] [] ?_
        refine At.skip (norm ?_)
        exact At.rK [0, 1, 12, 13] [] [] fun _ _ i => ⟨_, li h, i⟩
    · refine At.nR [] [] ?_
      obtain ⟨r39, h, e40⟩ := mr h
      rw [f24 _ e40] at h
      refine At.exit (norm ?_)
      refine At.sR [4] [] [] ?_
      obtain rfl := sq h
      exact At.ret (At.rR hR [])
theorem C_run_Same (p0 : T_api_Effect) (p1 : T_api_Effect) (r : Bool) (h : F_run_Same p0 p1 = some r) : FnOK Tryz.prog 16 [.agg (T_api_Effect.pvs p0), .agg (T_api_Effect.pvs p1)] [] (bo r) [] [] := by
  refine fI Tryz.func16 rfl fun E gv R hR => ?_
  refine At.sR [2, 3] [0, 1] [] ?_
  refine At.seqJ (S := Bool) (fun s => ⟨[(4, bo s)], []⟩) (fun s => F_run_Same_J1 s = some r) ?_ ?_
  · rcases cs h with ⟨b13, h⟩ | ⟨b13, h⟩
    · rcases cs h with ⟨b14, h⟩ | ⟨b14, h⟩
      · rcases cs h with ⟨b15, h⟩ | ⟨b15, h⟩
        · rcases cs h with ⟨b16, h⟩ | ⟨b16, h⟩
          · rcases cs h with ⟨b17, h⟩ | ⟨b17, h⟩
            · rcases cs h with ⟨b18, h⟩ | ⟨b18, h⟩
              · rcases cs h with ⟨b19, h⟩ | ⟨b19, h⟩
                · rcases cs h with ⟨b20, h⟩ | ⟨b20, h⟩
                  · obtain ⟨y21, hy21, h⟩ := bs h
                    rcases cs h with ⟨b22, h⟩ | ⟨b22, h⟩
                    · obtain ⟨y23, hy23, h⟩ := bs h
                      exact At.rK [4] [] [bT 5 b13, bT 12 b14, bT 19 b15, bT 26 b16, bT 33 b17, bT 40 b18, bT 47 b19, bT 54 b20, c0 59 (C_slices_Equal_int_int p0.Args p1.Args y21 hy21), bT 61 b22, c0 66 (C_slices_Equal_retrace_api_Alt_retrace_api_Alt p0.Alts p1.Alts y23 hy23)] fun _ _ i => ⟨y23, h, i⟩
                    · exact At.rK [4] [] [bT 5 b13, bT 12 b14, bT 19 b15, bT 26 b16, bT 33 b17, bT 40 b18, bT 47 b19, bT 54 b20, c0 59 (C_slices_Equal_int_int p0.Args p1.Args y21 hy21), bT 61 b22] fun _ _ i => ⟨false, h, i⟩
                  · exact At.rK [4] [] [bT 5 b13, bT 12 b14, bT 19 b15, bT 26 b16, bT 33 b17, bT 40 b18, bT 47 b19, bT 54 b20] fun _ _ i => ⟨false, h, i⟩
                · exact At.rK [4] [] [bT 5 b13, bT 12 b14, bT 19 b15, bT 26 b16, bT 33 b17, bT 40 b18, bT 47 b19] fun _ _ i => ⟨false, h, i⟩
              · exact At.rK [4] [] [bT 5 b13, bT 12 b14, bT 19 b15, bT 26 b16, bT 33 b17, bT 40 b18] fun _ _ i => ⟨false, h, i⟩
            · exact At.rK [4] [] [bT 5 b13, bT 12 b14, bT 19 b15, bT 26 b16, bT 33 b17] fun _ _ i => ⟨false, h, i⟩
          · exact At.rK [4] [] [bT 5 b13, bT 12 b14, bT 19 b15, bT 26 b16] fun _ _ i => ⟨false, h, i⟩
        · exact At.rK [4] [] [bT 5 b13, bT 12 b14, bT 19 b15] fun _ _ i => ⟨false, h, i⟩
      · exact At.rK [4] [] [bT 5 b13, bT 12 b14] fun _ _ i => ⟨false, h, i⟩
    · exact At.rK [4] [] [bT 5 b13] fun _ _ i => ⟨false, h, i⟩
  · intro x12 h
    obtain rfl := sq h
    exact At.ret (At.rR hR [])
theorem C_retracelaw24_live  (r : Bool) (h : F_retracelaw24_live  = some r) : FnOK Tryz.prog 12 [] [] (bo r) [] [] := by
  refine fI Tryz.func12 rfl fun E gv R hR => ?_
  refine At.sR [] [] [] ?_
  obtain ⟨y2, hy2, h⟩ := bs h
  refine At.sR [1] [0] [c0 0 (C_retraceref19_Text (⟨#[109, 97, 105, 110, 32, 123, 32, 118, 97, 114, 32, 120, 32, 61, 32, 49, 32, 47, 32, 48, 59, 32, 125]⟩ : ByteArray) y2 hy2)] ?_
  obtain ⟨y4, hy4, h⟩ := bs h
  refine At.sR [2] [2] [cT 3 1 [1] (C_run_Step y2.C 0 0 1 0 0 0 0 0 0 ([] : List T_api_Alt) ([0]) y4 hy4)] ?_
  refine At.seqJ (S := Bool) (fun s => ⟨[(0, bo s)], []⟩) (fun s => F_retracelaw24_live_J1 s = some r) ?_ ?_
  · rcases cs h with ⟨b10, h⟩ | ⟨b10, h⟩
    · rcases cs h with ⟨b11, h⟩ | ⟨b11, h⟩
      · rcases cs h with ⟨b12, h⟩ | ⟨b12, h⟩
        · obtain ⟨y13, hy13, h⟩ := bs h
          exact At.rK [0] [] [bT 3 b10, bT 8 b11, bT 13 b12, c0 16 (C_run_Same y4 y4 y13 hy13)] fun _ _ i => ⟨y13, h, i⟩
        · exact At.rK [0] [] [bT 3 b10, bT 8 b11, bT 13 b12] fun _ _ i => ⟨false, h, i⟩
      · exact At.rK [0] [] [bT 3 b10, bT 8 b11] fun _ _ i => ⟨false, h, i⟩
    · exact At.rK [0] [] [bT 3 b10] fun _ _ i => ⟨false, h, i⟩
  · intro x9 h
    obtain rfl := sq h
    exact At.ret (At.rR hR [])
theorem C_retraceref03_Same (p0 : (List Int)) (p1 : (List Int)) (r : Bool) (h : F_retraceref03_Same p0 p1 = some r) : FnOK Tryz.prog 37 [lv (eInt .i64) p0, lv (eInt .i64) p1] [] (bo r) [] [] := by
  refine fI Tryz.func37 rfl fun E gv R hR => ?_
  refine At.sR [0, 1] [] [] ?_
  refine At.seq ?_
  refine At.sR [0, 1, 10] [] [] ?_
  refine At.cd h (fun b2 h => ?_) (fun b2 h => ?_)
  · refine At.sR [4] [] [] ?_
    obtain rfl := sq h
    exact At.ret (At.rR hR [])
  · refine At.nR [0, 1] [] ?_
    refine At.skip (norm ?_)
    refine At.seq ?_
    refine At.sR [0, 1, 5] [] [] ?_
    refine At.block ?_
    refine At.nK (st' := ⟨[(0, lv (eInt .i64) p0), (1, lv (eInt .i64) p1), (5, i64 0)], []⟩) [0, 1, 5] [] ?_
    refine At.lp (fun s : (Int) => ⟨[(0, lv (eInt .i64) p0), (1, lv (eInt .i64) p1), (5, i64 s)], []⟩) h ?_
    intro x22 oo23 h f24
    replace h : F_retraceref03_Same_L1 p0 p1 x22 = some oo23 := h
    refine At.seq ?_
    refine At.sR [0, 1, 5, 14] [] [] ?_
    refine At.cd h (fun b26 h => ?_) (fun b26 h => ?_)
    · refine At.nR [0, 1, 5] [] ?_
      refine At.skip (norm ?_)
      refine At.seq ?_
      refine At.block ?_
      obtain ⟨y34, hy34, h⟩ := bs h
      obtain ⟨y35, hy35, h⟩ := bs h
      refine At.sD 0 [0, 1, 5, 25] [] [eT (he_int .i64) 2 hy34, eT (he_int .i64) 6 hy35] ?_
      refine At.cd h (fun b36 h => ?_) (fun b36 h => ?_)
      · refine At.sR [4] [] [] ?_
        obtain ⟨r37, h, e38⟩ := mr h
        rw [f24 _ e38] at h
        obtain rfl := sq h
        exact At.ret (At.rR hR [])
      · refine At.nR [0, 1, 5] [] ?_
        refine At.skip (norm ?_)
        exact At.rK [0, 1, 5] [] [] fun _ _ i => ⟨_, li h, i⟩
    · refine At.nR [] [] ?_
      obtain ⟨r39, h, e40⟩ := mr h
      rw [f24 _ e40] at h
      refine At.exit (norm ?_)
      refine At.sR [4] [] [] ?_
      obtain rfl := sq h
      exact At.ret (At.rR hR [])
theorem C_retraceref22_Alts (p0 : (List T_api_Alt)) (p1 : (List T_api_Alt)) (r : Bool) (h : F_retraceref22_Alts p0 p1 = some r) : FnOK Tryz.prog 38 [lv T_api_Alt.enc p0, lv T_api_Alt.enc p1] [] (bo r) [] [] := by
  refine fI Tryz.func38 rfl fun E gv R hR => ?_
  refine At.sR [0, 1] [] [] ?_
  refine At.seq ?_
  refine At.sR [0, 1, 10] [] [] ?_
  refine At.cd h (fun b2 h => ?_) (fun b2 h => ?_)
  · refine At.sR [4] [] [] ?_
    obtain rfl := sq h
    exact At.ret (At.rR hR [])
  · refine At.nR [0, 1] [] ?_
    refine At.skip (norm ?_)
    refine At.seq ?_
    refine At.sR [0, 1, 5] [] [] ?_
    refine At.block ?_
    refine At.nK (st' := ⟨[(0, lv T_api_Alt.enc p0), (1, lv T_api_Alt.enc p1), (5, i64 0)], []⟩) [0, 1, 5] [] ?_
    refine At.lp (fun s : (Int) => ⟨[(0, lv T_api_Alt.enc p0), (1, lv T_api_Alt.enc p1), (5, i64 s)], []⟩) h ?_
    intro x22 oo23 h f24
    replace h : F_retraceref22_Alts_L1 p0 p1 x22 = some oo23 := h
    refine At.seq ?_
    refine At.sR [0, 1, 5, 14] [] [] ?_
    refine At.cd h (fun b26 h => ?_) (fun b26 h => ?_)
    · refine At.nR [0, 1, 5] [] ?_
      refine At.skip (norm ?_)
      refine At.seq ?_
      refine At.block ?_
      obtain ⟨y34, hy34, h⟩ := bs h
      obtain ⟨y35, hy35, h⟩ := bs h
      refine At.sD 0 [0, 1, 5, 25] [] [eT T_api_Alt.enc_len 2 hy34, eT T_api_Alt.enc_len 6 hy35] ?_
      refine At.cd h (fun b36 h => ?_) (fun b36 h => ?_)
      · refine At.sR [4] [] [] ?_
        obtain ⟨r37, h, e38⟩ := mr h
        rw [f24 _ e38] at h
        obtain rfl := sq h
        exact At.ret (At.rR hR [])
      · refine At.nR [0, 1, 5] [] ?_
        refine At.skip (norm ?_)
        exact At.rK [0, 1, 5] [] [] fun _ _ i => ⟨_, li h, i⟩
    · refine At.nR [] [] ?_
      obtain ⟨r39, h, e40⟩ := mr h
      rw [f24 _ e40] at h
      refine At.exit (norm ?_)
      refine At.sR [4] [] [] ?_
      obtain rfl := sq h
      exact At.ret (At.rR hR [])
theorem C_retraceref24_Same (p0 : T_api_Effect) (p1 : T_api_Effect) (r : Bool) (h : F_retraceref24_Same p0 p1 = some r) : FnOK Tryz.prog 17 [.agg (T_api_Effect.pvs p0), .agg (T_api_Effect.pvs p1)] [] (bo r) [] [] := by
  refine fI Tryz.func17 rfl fun E gv R hR => ?_
  refine At.sR [2, 3] [0, 1] [] ?_
  refine At.seq ?_
  refine At.seqJ (S := Bool) (fun s => ⟨[(2, .ptr 0 0), (3, .ptr 1 0), (44, bo s)], [.blk 42 (T_api_Effect.pvs p0), .blk 42 (T_api_Effect.pvs p1)]⟩) (fun s => F_retraceref24_Same_J1 p0 p1 s = some r) ?_ ?_
  · rcases cs h with ⟨b31, h⟩ | ⟨b31, h⟩
    · exact At.rK [2, 3, 44] [0, 1] [bT 5 b31] fun _ _ i => ⟨true, h, i⟩
    · rcases cs h with ⟨b32, h⟩ | ⟨b32, h⟩
      · exact At.rK [2, 3, 44] [0, 1] [bT 5 b31, bT 12 b32] fun _ _ i => ⟨true, h, i⟩
      · rcases cs h with ⟨b33, h⟩ | ⟨b33, h⟩
        · exact At.rK [2, 3, 44] [0, 1] [bT 5 b31, bT 12 b32, bT 19 b33] fun _ _ i => ⟨true, h, i⟩
        · rcases cs h with ⟨b34, h⟩ | ⟨b34, h⟩
          · exact At.rK [2, 3, 44] [0, 1] [bT 5 b31, bT 12 b32, bT 19 b33, bT 26 b34] fun _ _ i => ⟨true, h, i⟩
          · rcases cs h with ⟨b35, h⟩ | ⟨b35, h⟩
            · exact At.rK [2, 3, 44] [0, 1] [bT 5 b31, bT 12 b32, bT 19 b33, bT 26 b34, bT 33 b35] fun _ _ i => ⟨true, h, i⟩
            · exact At.rK [2, 3, 44] [0, 1] [bT 5 b31, bT 12 b32, bT 19 b33, bT 26 b34, bT 33 b35] fun _ _ i => ⟨(p0.Slot != p1.Slot), h, i⟩
  · intro x18 h
    refine At.cd h (fun b19 h => ?_) (fun b19 h => ?_)
    · refine At.sR [4] [] [] ?_
      obtain rfl := sq h
      exact At.ret (At.rR hR [])
    · refine At.nR [2, 3] [0, 1] ?_
      refine At.skip (norm ?_)
      refine At.seqJ (S := Bool) (fun s => ⟨[(4, bo s)], []⟩) (fun s => F_retraceref24_Same_J2 s = some r) ?_ ?_
      · rcases cs h with ⟨b26, h⟩ | ⟨b26, h⟩
        · rcases cs h with ⟨b27, h⟩ | ⟨b27, h⟩
          · obtain ⟨y28, hy28, h⟩ := bs h
            rcases cs h with ⟨b29, h⟩ | ⟨b29, h⟩
            · obtain ⟨y30, hy30, h⟩ := bs h
              exact At.rK [4] [] [bT 5 b26, bT 12 b27, c0 17 (C_retraceref03_Same p0.Args p1.Args y28 hy28), bT 19 b29, c0 24 (C_retraceref22_Alts p0.Alts p1.Alts y30 hy30)] fun _ _ i => ⟨y30, h, i⟩
            · exact At.rK [4] [] [bT 5 b26, bT 12 b27, c0 17 (C_retraceref03_Same p0.Args p1.Args y28 hy28), bT 19 b29] fun _ _ i => ⟨false, h, i⟩
          · exact At.rK [4] [] [bT 5 b26, bT 12 b27] fun _ _ i => ⟨false, h, i⟩
        · exact At.rK [4] [] [bT 5 b26] fun _ _ i => ⟨false, h, i⟩
      · intro x25 h
        obtain rfl := sq h
        exact At.ret (At.rR hR [])
theorem C_retracelaw24_RunSame (p0 : T_api_Effect) (p1 : T_api_Effect) (r : Bool) (h : F_retracelaw24_RunSame p0 p1 = some r) : FnOK Tryz.prog 5 [.agg (T_api_Effect.pvs p0), .agg (T_api_Effect.pvs p1)] [] (bo r) [] [] := by
  refine fI Tryz.func5 rfl fun E gv R hR => ?_
  refine At.sR [2, 3] [0, 1] [] ?_
  refine At.seq ?_
  refine At.seqJ (S := Bool) (fun s => ⟨[(2, .ptr 0 0), (3, .ptr 1 0), (26, bo s)], [.blk 42 (T_api_Effect.pvs p0), .blk 42 (T_api_Effect.pvs p1)]⟩) (fun s => F_retracelaw24_RunSame_J1 p0 p1 s = some r) ?_ ?_
  · rcases cs h with ⟨b31, h⟩ | ⟨b31, h⟩
    · exact At.rK [2, 3, 26] [0, 1] [bT 4 b31] fun _ _ i => ⟨true, h, i⟩
    · rcases cs h with ⟨b32, h⟩ | ⟨b32, h⟩
      · exact At.rK [2, 3, 26] [0, 1] [bT 4 b31, bT 10 b32] fun _ _ i => ⟨true, h, i⟩
      · rcases cs h with ⟨b33, h⟩ | ⟨b33, h⟩
        · exact At.rK [2, 3, 26] [0, 1] [bT 4 b31, bT 10 b32, bT 16 b33] fun _ _ i => ⟨true, h, i⟩
        · exact At.rK [2, 3, 26] [0, 1] [bT 4 b31, bT 10 b32, bT 16 b33] fun _ _ i => ⟨(decide (40 < ((p1.Alts).length : Int))), h, i⟩
  · intro x14 h
    refine At.cd h (fun b15 h => ?_) (fun b15 h => ?_)
    · obtain ⟨y17, hy17, h⟩ := bs h
      refine At.sR [4] [] [c0 0 (C_retracelaw24_live y17 hy17)] ?_
      obtain rfl := sq h
      exact At.ret (At.rR hR [])
    · refine At.nR [2, 3] [0, 1] ?_
      refine At.skip (norm ?_)
      refine At.seqJ (S := Bool) (fun s => ⟨[(4, bo s)], []⟩) (fun s => F_retracelaw24_RunSame_J2 s = some r) ?_ ?_
      · obtain ⟨y25, hy25, h⟩ := bs h
        obtain ⟨y26, hy26, h⟩ := bs h
        rcases cs h with ⟨b27, h⟩ | ⟨b27, h⟩
        · obtain ⟨y28, hy28, h⟩ := bs h
          rcases cs h with ⟨b29, h⟩ | ⟨b29, h⟩
          · obtain ⟨y30, hy30, h⟩ := bs h
            exact At.dK 0 [4] [] [c0 2 (C_run_Same p0 p1 y25 hy25), c0 5 (C_retraceref24_Same p0 p1 y26 hy26), bT 7 b27, c0 10 (C_run_Same p1 p1 y28 hy28), bT 12 b29, c0 13 (C_retracelaw24_live y30 hy30)] fun _ _ i => ⟨y30, h, i⟩
          · exact At.dK 0 [4] [] [c0 2 (C_run_Same p0 p1 y25 hy25), c0 5 (C_retraceref24_Same p0 p1 y26 hy26), bT 7 b27, c0 10 (C_run_Same p1 p1 y28 hy28), bT 12 b29] fun _ _ i => ⟨false, h, i⟩
        · exact At.dK 0 [4] [] [c0 2 (C_run_Same p0 p1 y25 hy25), c0 5 (C_retraceref24_Same p0 p1 y26 hy26), bT 7 b27] fun _ _ i => ⟨false, h, i⟩
      · intro x24 h
        obtain rfl := sq h
        exact At.ret (At.rR hR [])
end Go.Ab
