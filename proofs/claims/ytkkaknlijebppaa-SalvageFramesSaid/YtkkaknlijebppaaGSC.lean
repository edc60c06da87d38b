/- GSC -/
import Derived.Test.YtkkaknlijebppaaGS1
namespace Go.Ab
open Go.Proofs
set_option linter.unusedVariables false
set_option maxRecDepth 100000
theorem C_retraceref30_Read (o0 : T_retraceref03_Reader) (r : T_api_State × T_retraceref03_Reader) (h : F_retraceref30_Read o0 = some r) : FnOK Try.prog 41 [.ptr 0 0] [.blk 91 (T_retraceref03_Reader.pvs o0)] (.agg (T_api_State.pvs r.1)) [.blk 91 (T_retraceref03_Reader.pvs r.2)] [1] := by
  refine fI Try.func41 rfl fun E gv R hR => ?_
  refine At.sR [0, 2] [0, 1, 2] [] ?_
  refine At.sR [0, 2, 3] [0, 1, 2, 3] [] ?_
  obtain ⟨y2, hy2, h⟩ := bs h
  refine At.sR [0, 2, 3] [0, 1, 2, 3] [cT 1 1 [0] (C_retraceref03_Reader_Int o0 y2 hy2)] ?_
  obtain ⟨y4, hy4, h⟩ := bs h
  refine At.sR [0, 2, 3] [0, 1, 2, 3] [cT 1 1 [0] (C_retraceref03_Reader_Int y2.2 y4 hy4)] ?_
  obtain ⟨y6, hy6, h⟩ := bs h
  refine At.sR [0, 2, 3] [0, 1, 2, 3] [cT 1 1 [0] (C_retraceref03_Reader_Int y4.2 y6 hy6)] ?_
  refine At.seq ?_
  obtain ⟨y8, hy8, h⟩ := bs h
  refine At.rK (st' := ⟨[(0, .ptr 0 0), (2, .ptr 2 0), (3, .ptr 3 0)], [.blk 91 (T_retraceref03_Reader.pvs y8.2), .ghost (gv 0) (.ptr 0 0), .blk 62 [i64 0, i64 0, i64 0, i64 0, i64 0, .d (.list true 0 []), .d (.list true 0 [])], .blk 62 [i64 y2.1, i64 y4.1, i64 y6.1, i64 y8.1, i64 0, .d (.list true 0 []), .d (.list true 0 [])]]⟩) [0, 2, 3] [0, 1, 2, 3] [cT 1 1 [0] (C_retraceref03_Reader_Int y6.2 y8 hy8)] (norm ?_)
  obtain ⟨y10, hy10, h⟩ := bs h
  refine At.sR [0, 2, 3] [0, 1, 2, 3] [cT 1 1 [0] (C_retraceref03_Reader_Int y8.2 y10 hy10)] ?_
  obtain ⟨y12, hy12, h⟩ := bs h
  refine At.sR [0, 2, 3, 4] [0, 1, 2, 3] [cT 1 1 [0] (C_retraceref03_Reader_Upto 4096 y10.2 y12 hy12)] ?_
  refine At.seq ?_
  refine At.sR [0, 2, 3, 4, 5] [0, 1, 2, 3] [] ?_
  refine At.block ?_
  refine At.nK (st' := ⟨[(0, .ptr 0 0), (2, .ptr 2 0), (3, .ptr 3 0), (4, i64 y12.1), (5, i64 0)], [.blk 91 (T_retraceref03_Reader.pvs y12.2), .ghost (gv 0) (.ptr 0 0), .blk 62 [i64 0, i64 0, i64 0, i64 0, i64 0, .d (.list true 0 []), .d (.list true 0 [])], .blk 62 [i64 y2.1, i64 y4.1, i64 y6.1, i64 y8.1, i64 y10.1, .d (.list true 0 []), .d (.list true 0 [])]]⟩) [0, 2, 3, 4, 5] [0, 1, 2, 3] ?_
  refine At.edNar [.ownO 3 5 104 11] [0, 2, 3, 4, 5] [0, 1, 2, 3, 4] (st' := ⟨[(0, .ptr 0 0), (2, .ptr 2 0), (3, .ptr 3 0), (4, i64 y12.1), (5, i64 0)], [.blk 91 (T_retraceref03_Reader.pvs y12.2), .ghost (gv 0) (.ptr 0 0), .blk 62 [i64 0, i64 0, i64 0, i64 0, i64 0, .d (.list true 0 []), .d (.list true 0 [])], .blk 62 [i64 y2.1, i64 y4.1, i64 y6.1, i64 y8.1, i64 y10.1, .row 4 ([] : List T_api_Proc).length, .d (.list true 0 [])], .row 104 11 (encL T_api_Proc.enc ([]))]⟩) (by kernel_rfl) ?_
  refine At.lp (fun s : (Int × ByteArray × Int × (List T_api_Proc)) => ⟨[(0, .ptr 0 0), (2, .ptr 2 0), (3, .ptr 3 0), (4, i64 y12.1), (5, i64 s.1)], [.blk 91 [sv s.2.1, i64 s.2.2.1], .ghost (gv 0) (.ptr 0 0), .blk 62 [i64 0, i64 0, i64 0, i64 0, i64 0, .d (.list true 0 []), .d (.list true 0 [])], .blk 62 [i64 y2.1, i64 y4.1, i64 y6.1, i64 y8.1, i64 y10.1, .row 4 (s.2.2.2).length, .d (.list true 0 [])], .row 104 11 (encL T_api_Proc.enc s.2.2.2)]⟩) h ?_
  rintro ⟨x227, x228, x229, x230⟩ oo231 h f232
  replace h : F_retraceref30_Read_L4 y2 y4 y6 y8 y10 y12 x227 x228 x229 x230 = some oo231 := h
  refine At.seq ?_
  refine At.seqJ (S := Bool) (fun s => ⟨[(0, .ptr 0 0), (2, .ptr 2 0), (3, .ptr 3 0), (4, i64 y12.1), (5, i64 x227), (36, bo s)], [.blk 91 [sv x228, i64 x229], .ghost (gv 0) (.ptr 0 0), .blk 62 [i64 0, i64 0, i64 0, i64 0, i64 0, .d (.list true 0 []), .d (.list true 0 [])], .blk 62 [i64 y2.1, i64 y4.1, i64 y6.1, i64 y8.1, i64 y10.1, .row 4 (x230).length, .d (.list true 0 [])], .row 104 11 (encL T_api_Proc.enc x230)]⟩) (fun s => F_retraceref30_Read_J1 y2 y4 y6 y8 y10 x227 x228 x229 x230 s = some oo231) ?_ ?_
  · rcases cs h with ⟨b444, h⟩ | ⟨b444, h⟩
    · exact At.rK [0, 2, 3, 4, 5, 36] [0, 1, 2, 3, 4] [bT 3 b444] fun _ _ i => ⟨(x229 == 0), h, i⟩
    · exact At.rK [0, 2, 3, 4, 5, 36] [0, 1, 2, 3, 4] [bT 3 b444] fun _ _ i => ⟨false, h, i⟩
  · intro x238 h
    refine At.cd h (fun b239 h => ?_) (fun b239 h => ?_)
    · refine At.nR [0, 2, 3, 4, 5] [0, 1, 2, 3, 4] ?_
      refine At.skip (norm ?_)
      refine At.seq ?_
      refine At.block ?_
      refine At.sR [0, 2, 3, 4, 5, 6] [0, 1, 2, 3, 4, 5] [] ?_
      obtain ⟨y340, hy340, h⟩ := bs h
      refine At.sR [0, 2, 3, 4, 5, 6] [0, 1, 2, 3, 4, 5] [cT 1 1 [0] (C_retraceref03_Reader_Int (⟨x228, x229⟩ : T_retraceref03_Reader) y340 hy340)] ?_
      obtain ⟨y342, hy342, h⟩ := bs h
      refine At.sR [0, 2, 3, 4, 5, 6] [0, 1, 2, 3, 4, 5] [cT 1 1 [0] (C_retraceref03_Reader_Int y340.2 y342 hy342)] ?_
      obtain ⟨y344, hy344, h⟩ := bs h
      refine At.sR [0, 2, 3, 4, 5, 6] [0, 1, 2, 3, 4, 5, 6] [cT 1 1 [0, 6] (C_retraceref03_Reader_Ints 4096 y342.2 y344 hy344)] ?_
      refine At.seq ?_
      obtain ⟨y346, hy346, h⟩ := bs h
      refine At.rK (st' := ⟨[(0, .ptr 0 0), (2, .ptr 2 0), (3, .ptr 3 0), (4, i64 y12.1), (5, i64 x227), (6, .ptr 5 0)], [.blk 91 (T_retraceref03_Reader.pvs y346.2), .ghost (gv 0) (.ptr 0 0), .blk 62 [i64 0, i64 0, i64 0, i64 0, i64 0, .d (.list true 0 []), .d (.list true 0 [])], .blk 62 [i64 y2.1, i64 y4.1, i64 y6.1, i64 y8.1, i64 y10.1, .row 4 (x230).length, .d (.list true 0 [])], .row 104 11 (encL T_api_Proc.enc x230), .blk 104 [i64 y340.1, i64 y342.1, .row 6 (y344.1).length, i64 y346.1, i64 0, i64 0, i64 0, i64 0, i64 0, i64 0, .d (.list true 0 [])], .row 3 1 (encL (eInt .i64) y344.1)]⟩) [0, 2, 3, 4, 5, 6] [0, 1, 2, 3, 4, 5, 6] [cT 1 1 [0] (C_retraceref03_Reader_Int y344.2 y346 hy346)] (norm ?_)
      obtain ⟨y348, hy348, h⟩ := bs h
      refine At.sR [0, 2, 3, 4, 5, 6] [0, 1, 2, 3, 4, 5, 6] [cT 1 1 [0] (C_retraceref03_Reader_Int y346.2 y348 hy348)] ?_
      obtain ⟨y350, hy350, h⟩ := bs h
      refine At.sR [0, 2, 3, 4, 5, 6] [0, 1, 2, 3, 4, 5, 6] [cT 1 1 [0] (C_retraceref03_Reader_Int y348.2 y350 hy350)] ?_
      obtain ⟨y352, hy352, h⟩ := bs h
      refine At.sR [0, 2, 3, 4, 5, 6] [0, 1, 2, 3, 4, 5, 6] [cT 1 1 [0] (C_retraceref03_Reader_Int y350.2 y352 hy352)] ?_
      obtain ⟨y354, hy354, h⟩ := bs h
      refine At.sR [0, 2, 3, 4, 5, 6] [0, 1, 2, 3, 4, 5, 6] [cT 1 1 [0] (C_retraceref03_Reader_Int y352.2 y354 hy354)] ?_
      obtain ⟨y356, hy356, h⟩ := bs h
      refine At.sR [0, 2, 3, 4, 5, 6] [0, 1, 2, 3, 4, 5, 6] [cT 1 1 [0] (C_retraceref03_Reader_Int y354.2 y356 hy356)] ?_
      refine At.seq ?_
      obtain ⟨y358, hy358, h⟩ := bs h
      refine At.rK (st' := ⟨[(0, .ptr 0 0), (2, .ptr 2 0), (3, .ptr 3 0), (4, i64 y12.1), (5, i64 x227), (6, .ptr 5 0)], [.blk 91 (T_retraceref03_Reader.pvs y358.2), .ghost (gv 0) (.ptr 0 0), .blk 62 [i64 0, i64 0, i64 0, i64 0, i64 0, .d (.list true 0 []), .d (.list true 0 [])], .blk 62 [i64 y2.1, i64 y4.1, i64 y6.1, i64 y8.1, i64 y10.1, .row 4 (x230).length, .d (.list true 0 [])], .row 104 11 (encL T_api_Proc.enc x230), .blk 104 [i64 y340.1, i64 y342.1, .row 6 (y344.1).length, i64 y346.1, i64 y348.1, i64 y350.1, i64 y352.1, i64 y354.1, i64 y356.1, i64 y358.1, .d (.list true 0 [])], .row 3 1 (encL (eInt .i64) y344.1)]⟩) [0, 2, 3, 4, 5, 6] [0, 1, 2, 3, 4, 5, 6] [cT 1 1 [0] (C_retraceref03_Reader_Int y356.2 y358 hy358)] (norm ?_)
      obtain ⟨y360, hy360, h⟩ := bs h
      refine At.sR [0, 2, 3, 4, 5, 6, 7] [0, 1, 2, 3, 4, 5, 6] [cT 1 1 [0] (C_retraceref03_Reader_Upto 4096 y358.2 y360 hy360)] ?_
      refine At.seq ?_
      refine At.sR [0, 2, 3, 4, 5, 6, 7, 8] [0, 1, 2, 3, 4, 5, 6] [] ?_
      refine At.block ?_
      refine At.nK (st' := ⟨[(0, .ptr 0 0), (2, .ptr 2 0), (3, .ptr 3 0), (4, i64 y12.1), (5, i64 x227), (6, .ptr 5 0), (7, i64 y360.1), (8, i64 0)], [.blk 91 (T_retraceref03_Reader.pvs y360.2), .ghost (gv 0) (.ptr 0 0), .blk 62 [i64 0, i64 0, i64 0, i64 0, i64 0, .d (.list true 0 []), .d (.list true 0 [])], .blk 62 [i64 y2.1, i64 y4.1, i64 y6.1, i64 y8.1, i64 y10.1, .row 4 (x230).length, .d (.list true 0 [])], .row 104 11 (encL T_api_Proc.enc x230), .blk 104 [i64 y340.1, i64 y342.1, .row 6 (y344.1).length, i64 y346.1, i64 y348.1, i64 y350.1, i64 y352.1, i64 y354.1, i64 y356.1, i64 y358.1, .d (.list true 0 [])], .row 3 1 (encL (eInt .i64) y344.1)]⟩) [0, 2, 3, 4, 5, 6, 7, 8] [0, 1, 2, 3, 4, 5, 6] ?_
      refine At.edNar [.ownO 5 10 124 5] [0, 2, 3, 4, 5, 6, 7, 8] [0, 1, 2, 3, 4, 5, 6, 7] (st' := ⟨[(0, .ptr 0 0), (2, .ptr 2 0), (3, .ptr 3 0), (4, i64 y12.1), (5, i64 x227), (6, .ptr 5 0), (7, i64 y360.1), (8, i64 0)], [.blk 91 (T_retraceref03_Reader.pvs y360.2), .ghost (gv 0) (.ptr 0 0), .blk 62 [i64 0, i64 0, i64 0, i64 0, i64 0, .d (.list true 0 []), .d (.list true 0 [])], .blk 62 [i64 y2.1, i64 y4.1, i64 y6.1, i64 y8.1, i64 y10.1, .row 4 (x230).length, .d (.list true 0 [])], .row 104 11 (encL T_api_Proc.enc x230), .blk 104 [i64 y340.1, i64 y342.1, .row 6 (y344.1).length, i64 y346.1, i64 y348.1, i64 y350.1, i64 y352.1, i64 y354.1, i64 y356.1, i64 y358.1, .row 7 ([] : List T_api_Alt).length], .row 3 1 (encL (eInt .i64) y344.1), .row 124 5 (encL T_api_Alt.enc ([]))]⟩) (by kernel_rfl) ?_
      refine At.lp (fun s : (Int × ByteArray × Int × (List T_api_Alt)) => ⟨[(0, .ptr 0 0), (2, .ptr 2 0), (3, .ptr 3 0), (4, i64 y12.1), (5, i64 x227), (6, .ptr 5 0), (7, i64 y360.1), (8, i64 s.1)], [.blk 91 [sv s.2.1, i64 s.2.2.1], .ghost (gv 0) (.ptr 0 0), .blk 62 [i64 0, i64 0, i64 0, i64 0, i64 0, .d (.list true 0 []), .d (.list true 0 [])], .blk 62 [i64 y2.1, i64 y4.1, i64 y6.1, i64 y8.1, i64 y10.1, .row 4 (x230).length, .d (.list true 0 [])], .row 104 11 (encL T_api_Proc.enc x230), .blk 104 [i64 y340.1, i64 y342.1, .row 6 (y344.1).length, i64 y346.1, i64 y348.1, i64 y350.1, i64 y352.1, i64 y354.1, i64 y356.1, i64 y358.1, .row 7 (s.2.2.2).length], .row 3 1 (encL (eInt .i64) y344.1), .row 124 5 (encL T_api_Alt.enc s.2.2.2)]⟩) h ?_
      rintro ⟨x399, x400, x401, x402⟩ oo403 h f404
      replace h : F_retraceref30_Read_L3 x227 x230 y340 y342 y344 y346 y348 y350 y352 y354 y356 y358 y360 x399 x400 x401 x402 = some oo403 := h
      refine At.seq ?_
      refine At.seqJ (S := Bool) (fun s => ⟨[(0, .ptr 0 0), (2, .ptr 2 0), (3, .ptr 3 0), (4, i64 y12.1), (5, i64 x227), (6, .ptr 5 0), (7, i64 y360.1), (8, i64 x399), (80, bo s)], [.blk 91 [sv x400, i64 x401], .ghost (gv 0) (.ptr 0 0), .blk 62 [i64 0, i64 0, i64 0, i64 0, i64 0, .d (.list true 0 []), .d (.list true 0 [])], .blk 62 [i64 y2.1, i64 y4.1, i64 y6.1, i64 y8.1, i64 y10.1, .row 4 (x230).length, .d (.list true 0 [])], .row 104 11 (encL T_api_Proc.enc x230), .blk 104 [i64 y340.1, i64 y342.1, .row 6 (y344.1).length, i64 y346.1, i64 y348.1, i64 y350.1, i64 y352.1, i64 y354.1, i64 y356.1, i64 y358.1, .row 7 (x402).length], .row 3 1 (encL (eInt .i64) y344.1), .row 124 5 (encL T_api_Alt.enc x402)]⟩) (fun s => F_retraceref30_Read_J2 x227 x230 y340 y342 y344 y346 y348 y350 y352 y354 y356 y358 x399 x400 x401 x402 s = some oo403) ?_ ?_
      · rcases cs h with ⟨b437, h⟩ | ⟨b437, h⟩
        · exact At.rK [0, 2, 3, 4, 5, 6, 7, 8, 80] [0, 1, 2, 3, 4, 5, 6, 7] [bT 3 b437] fun _ _ i => ⟨(x401 == 0), h, i⟩
        · exact At.rK [0, 2, 3, 4, 5, 6, 7, 8, 80] [0, 1, 2, 3, 4, 5, 6, 7] [bT 3 b437] fun _ _ i => ⟨false, h, i⟩
      · intro x410 h
        refine At.cd h (fun b411 h => ?_) (fun b411 h => ?_)
        · refine At.nR [0, 2, 3, 4, 5, 6, 7, 8] [0, 1, 2, 3, 4, 5, 6, 7] ?_
          refine At.skip (norm ?_)
          refine At.seq ?_
          refine At.block ?_
          refine At.sR [0, 2, 3, 4, 5, 6, 7, 8, 9] [0, 1, 2, 3, 4, 5, 6, 7, 8] [] ?_
          obtain ⟨y424, hy424, h⟩ := bs h
          refine At.sR [0, 2, 3, 4, 5, 6, 7, 8, 9] [0, 1, 2, 3, 4, 5, 6, 7, 8] [cT 1 1 [0] (C_retraceref03_Reader_Int (⟨x400, x401⟩ : T_retraceref03_Reader) y424 hy424)] ?_
          obtain ⟨y426, hy426, h⟩ := bs h
          refine At.sR [0, 2, 3, 4, 5, 6, 7, 8, 9] [0, 1, 2, 3, 4, 5, 6, 7, 8] [cT 1 1 [0] (C_retraceref03_Reader_Int y424.2 y426 hy426)] ?_
          obtain ⟨y428, hy428, h⟩ := bs h
          refine At.sR [0, 2, 3, 4, 5, 6, 7, 8, 9] [0, 1, 2, 3, 4, 5, 6, 7, 8] [cT 1 1 [0] (C_retraceref03_Reader_Int y426.2 y428 hy428)] ?_
          refine At.seq ?_
          obtain ⟨y430, hy430, h⟩ := bs h
          refine At.rK (st' := ⟨[(0, .ptr 0 0), (2, .ptr 2 0), (3, .ptr 3 0), (4, i64 y12.1), (5, i64 x227), (6, .ptr 5 0), (7, i64 y360.1), (8, i64 x399), (9, .ptr 8 0)], [.blk 91 (T_retraceref03_Reader.pvs y430.2), .ghost (gv 0) (.ptr 0 0), .blk 62 [i64 0, i64 0, i64 0, i64 0, i64 0, .d (.list true 0 []), .d (.list true 0 [])], .blk 62 [i64 y2.1, i64 y4.1, i64 y6.1, i64 y8.1, i64 y10.1, .row 4 (x230).length, .d (.list true 0 [])], .row 104 11 (encL T_api_Proc.enc x230), .blk 104 [i64 y340.1, i64 y342.1, .row 6 (y344.1).length, i64 y346.1, i64 y348.1, i64 y350.1, i64 y352.1, i64 y354.1, i64 y356.1, i64 y358.1, .row 7 (x402).length], .row 3 1 (encL (eInt .i64) y344.1), .row 124 5 (encL T_api_Alt.enc x402), .blk 124 [i64 y424.1, i64 y426.1, i64 y428.1, i64 y430.1, i64 0]]⟩) [0, 2, 3, 4, 5, 6, 7, 8, 9] [0, 1, 2, 3, 4, 5, 6, 7, 8] [cT 1 1 [0] (C_retraceref03_Reader_Int y428.2 y430 hy430)] (norm ?_)
          obtain ⟨y432, hy432, h⟩ := bs h
          refine At.sR [0, 2, 3, 4, 5, 6, 7, 8, 9] [0, 1, 2, 3, 4, 5, 6, 7, 8] [cT 1 1 [0] (C_retraceref03_Reader_Int y430.2 y432 hy432)] ?_
          obtain ⟨g433, h⟩ := gs h
          refine At.rG [0, 2, 3, 4, 5, 6, 7, 8] [0, 1, 2, 3, 4, 5, 6, 7] [aT T_api_Alt.enc_len 4 x402 ([(⟨y424.1, y426.1, y428.1, y430.1, y432.1⟩ : T_api_Alt)]) rfl g433] (norm ?_)
          exact At.rK [0, 2, 3, 4, 5, 6, 7, 8] [0, 1, 2, 3, 4, 5, 6, 7] [] fun _ _ i => ⟨_, li h, i⟩
        · refine At.nR [0, 2, 3, 4, 5, 6] [0, 1, 2, 3, 4, 5, 6, 7] ?_
          obtain ⟨r434, h, e435⟩ := mr h
          rw [f404 _ e435] at h
          refine At.exit (norm ?_)
          obtain ⟨g436, h⟩ := gs h
          refine At.rG [0, 2, 3, 4, 5] [0, 1, 2, 3, 4] [tT 3 ({ settle := [6, 7] }) all0, aT T_api_Proc.enc_len 4 x230 ([(⟨y340.1, y342.1, y344.1, y346.1, y348.1, y350.1, y352.1, y354.1, y356.1, y358.1, x402⟩ : T_api_Proc)]) rfl g436] (norm ?_)
          exact At.rK [0, 2, 3, 4, 5] [0, 1, 2, 3, 4] [] fun _ _ i => ⟨_, li h, i⟩
    · refine At.nR [0, 2, 3] [0, 1, 2, 3, 4] ?_
      obtain ⟨r438, h, e439⟩ := mr h
      rw [f232 _ e439] at h
      refine At.exit (norm ?_)
      obtain ⟨y441, hy441, h⟩ := bs h
      refine At.sR [0, 2, 3] [0, 1, 2, 3, 4, 5] [cT 1 1 [0, 5] (C_retraceref03_Reader_Ints 1048576 (⟨x228, x229⟩ : T_retraceref03_Reader) y441 hy441)] ?_
      refine At.seq ?_
      refine At.sR [2, 3, 117] [0, 1, 2, 3, 4, 5] [] ?_
      refine At.cd h (fun b443 h => ?_) (fun b443 h => ?_)
      · refine At.sR [2] [0, 1, 2] [] ?_
        refine At.eN [.loO 2] [2] [0, 1, 2] ?_
        obtain rfl := sq h
        exact At.ret (At.rR hR [0])
      · refine At.nR [2, 3] [0, 1, 2, 3, 4, 5] ?_
        refine At.skip (norm ?_)
        refine At.sR [2] [0, 1, 2, 4, 5] [] ?_
        refine At.eN [.settle 3, .settle 4] [2] [0, 1, 2] ?_
        obtain rfl := sq h
        exact At.ret (At.rR hR [0])
theorem C_retraceref31_Right (p0 : (List T_api_Event)) (r : Bool) (h : F_retraceref31_Right p0 = some r) : FnOK Try.prog 66 [lv T_api_Event.enc p0] [] (bo r) [] [] := by
  refine fI Try.func66 rfl fun E gv R hR => ?_
  refine At.sR [0] [] [] ?_
  obtain ⟨y3, hy3, h⟩ := bs h
  obtain ⟨g4, h⟩ := gs h
  refine At.sR [2] [] [c0 1 (C_retraceref31_Check p0 y3 hy3), tT 3 ({ orc := .val (.bool (y3 == ([0, 0] : List Int))) }) (allc (eqTwo_ok .i64 g4) (allc (twoOK .i64 g4) all0))] ?_
  obtain rfl := sq h
  exact At.ret (At.rR hR [])
theorem C_retraceref31_Begins (p0 : (List T_api_Event)) (r : (List Int)) (h : F_retraceref31_Begins p0 = some r) : FnOK Try.prog 84 [lv T_api_Event.enc p0] [] (.row 0 (r).length) [.row 3 1 (encL (eInt .i64) r)] [] := by
  refine fI Try.func84 rfl fun E gv R hR => ?_
  refine At.sR [0] [] [] ?_
  refine At.sR [0, 3] [] [] ?_
  refine At.seq ?_
  refine At.sR [0, 3, 4] [] [] ?_
  refine At.block ?_
  refine At.nK (st' := ⟨[(0, lv T_api_Event.enc p0), (3, .d (.list true 0 [])), (4, i64 0)], []⟩) [0, 3, 4] [] ?_
  refine At.edNar [.ownS 3 3 1] [0, 3, 4] [0] (st' := ⟨[(0, lv T_api_Event.enc p0), (3, .row 0 ([] : List Int).length), (4, i64 0)], [.row 3 1 (encL (eInt .i64) ([]))]⟩) (by kernel_rfl) ?_
  refine At.lp (fun s : (Int × (List Int)) => ⟨[(0, lv T_api_Event.enc p0), (3, .row 0 (s.2).length), (4, i64 s.1)], [.row 3 1 (encL (eInt .i64) s.2)]⟩) h ?_
  rintro ⟨x18, x19⟩ oo20 h f21
  replace h : F_retraceref31_Begins_L2 p0 x18 x19 = some oo20 := h
  refine At.seq ?_
  refine At.sR [0, 3, 4, 8] [0] [] ?_
  refine At.cd h (fun b23 h => ?_) (fun b23 h => ?_)
  · refine At.nR [0, 3, 4] [0] ?_
    refine At.skip (norm ?_)
    refine At.seqJ (S := (List Int)) (fun s => ⟨[(0, lv T_api_Event.enc p0), (3, .row 0 (s).length), (4, i64 x18)], [.row 3 1 (encL (eInt .i64) s)]⟩) (fun s => F_retraceref31_Begins_J1 x18 s = some oo20) ?_ ?_
    · refine At.block ?_
      obtain ⟨y30, hy30, h⟩ := bs h
      refine At.sR [0, 3, 4, 16] [0] [eT T_api_Event.enc_len 2 hy30] ?_
      refine At.cd h (fun b31 h => ?_) (fun b31 h => ?_)
      · obtain ⟨g32, h⟩ := gs h
        exact At.rK [0, 3, 4] [0] [aT (he_int .i64) 3 x19 ([x18]) rfl g32] fun _ _ i => ⟨(x19 ++ [x18]), h, i⟩
      · refine At.nR [0, 3, 4] [0] ?_
        refine At.skip (fun _ _ i => ⟨x19, h, i.en [] [0, 3, 4] [0]⟩)
    · intro x28 h
      exact At.rK [0, 3, 4] [0] [] fun _ _ i => ⟨_, li h, i⟩
  · refine At.nR [3] [0] ?_
    obtain ⟨r33, h, e34⟩ := mr h
    rw [f21 _ e34] at h
    refine At.exit (norm ?_)
    refine At.sR [2] [0] [] ?_
    obtain rfl := sq h
    exact At.ret (At.rR hR [0])
theorem C_retraceref31_Begin (p0 : (List T_api_Event)) (p1 : Int) (r : Int) (h : F_retraceref31_Begin p0 p1 = some r) : FnOK Try.prog 67 [lv T_api_Event.enc p0, i64 p1] [] (i64 r) [] [] := by
  refine fI Try.func67 rfl fun E gv R hR => ?_
  refine At.sR [0, 1] [] [] ?_
  obtain ⟨y3, hy3, h⟩ := bs h
  obtain ⟨g4, h⟩ := gs h
  refine At.sR [1, 5] [0] [cT 1 0 [0] (C_retraceref31_Begins p0 y3 hy3), aT (he_int .i64) 5 y3 ([((p0).length : Int)]) rfl g4] ?_
  refine At.seq ?_
  refine At.seqJ (S := Bool) (fun s => ⟨[(1, i64 p1), (5, .row 0 ((y3 ++ [((p0).length : Int)])).length), (19, bo s)], [.row 3 1 (encL (eInt .i64) (y3 ++ [((p0).length : Int)]))]⟩) (fun s => F_retraceref31_Begin_J1 p0 p1 y3 s = some r) ?_ ?_
  · rcases cs h with ⟨b14, h⟩ | ⟨b14, h⟩
    · exact At.rK [1, 5, 19] [0] [bT 2 b14] fun _ _ i => ⟨true, h, i⟩
    · exact At.rK [1, 5, 19] [0] [bT 2 b14] fun _ _ i => ⟨(decide ((((y3 ++ [((p0).length : Int)])).length : Int) ≤ p1)), h, i⟩
  · intro x10 h
    refine At.cd h (fun b11 h => ?_) (fun b11 h => ?_)
    · refine At.sR [4] [] [] ?_
      obtain rfl := sq h
      exact At.ret (At.rR hR [])
    · refine At.nR [1, 5] [0] ?_
      refine At.skip (norm ?_)
      obtain ⟨y13, hy13, h⟩ := bs h
      refine At.sR [4] [] [oT 2 ((rAt_of (he_int .i64) (d := .int .i64 y13) hy13 rfl).1), vT 3 (.int .i64 y13) ((rAt_of (he_int .i64) (d := .int .i64 y13) hy13 rfl).2)] ?_
      obtain rfl := sq h
      exact At.ret (At.rR hR [])
theorem C_retraceref32_Is (p0 : T_api_Trace) (r : Bool) (h : F_retraceref32_Is p0 = some r) : FnOK Try.prog 43 [.agg (T_api_Trace.pvs p0)] [] (bo r) [] [] := by
  refine fI Try.func43 rfl fun E gv R hR => ?_
  refine At.sR [1] [0] [] ?_
  refine At.seq ?_
  refine At.seqJ (S := Bool) (fun s => ⟨[(1, .ptr 0 0), (28, bo s)], [.blk 27 (T_api_Trace.pvs p0)]⟩) (fun s => F_retraceref32_Is_J1 p0 s = some r) ?_ ?_
  · obtain ⟨y152, hy152, h⟩ := bs h
    rcases cs h with ⟨b153, h⟩ | ⟨b153, h⟩
    · exact At.rK [1, 28] [0] [c0 2 (C_retraceref31_Right p0.Events y152 hy152), bT 4 b153] fun _ _ i => ⟨true, h, i⟩
    · rcases cs h with ⟨b154, h⟩ | ⟨b154, h⟩
      · exact At.rK [1, 28] [0] [c0 2 (C_retraceref31_Right p0.Events y152 hy152), bT 4 b153, bT 9 b154] fun _ _ i => ⟨true, h, i⟩
      · rcases cs h with ⟨b155, h⟩ | ⟨b155, h⟩
        · exact At.rK [1, 28] [0] [c0 2 (C_retraceref31_Right p0.Events y152 hy152), bT 4 b153, bT 9 b154, bT 14 b155] fun _ _ i => ⟨true, h, i⟩
        · rcases cs h with ⟨b156, h⟩ | ⟨b156, h⟩
          · exact At.rK [1, 28] [0] [c0 2 (C_retraceref31_Right p0.Events y152 hy152), bT 4 b153, bT 9 b154, bT 14 b155, bT 19 b156] fun _ _ i => ⟨true, h, i⟩
          · exact At.rK [1, 28] [0] [c0 2 (C_retraceref31_Right p0.Events y152 hy152), bT 4 b153, bT 9 b154, bT 14 b155, bT 19 b156] fun _ _ i => ⟨(decide (1048576 < p0.Every)), h, i⟩
  · intro x18 h
    refine At.cd h (fun b19 h => ?_) (fun b19 h => ?_)
    · refine At.sR [2] [] [] ?_
      obtain rfl := sq h
      exact At.ret (At.rR hR [])
    · refine At.nR [1] [0] ?_
      refine At.skip (norm ?_)
      refine At.sR [1, 3] [0] [] ?_
      refine At.seq ?_
      refine At.sR [1, 3, 4] [0] [] ?_
      refine At.block ?_
      refine At.nK (st' := ⟨[(1, .ptr 0 0), (3, i64 0), (4, i64 0)], [.blk 27 (T_api_Trace.pvs p0)]⟩) [1, 3, 4] [0] ?_
      refine At.lp (fun s : (Int × Int) => ⟨[(1, .ptr 0 0), (3, i64 s.1), (4, i64 s.2)], [.blk 27 (T_api_Trace.pvs p0)]⟩) h ?_
      rintro ⟨x86, x87⟩ oo88 h f89
      replace h : F_retraceref32_Is_L3 p0 x86 x87 = some oo88 := h
      refine At.seq ?_
      refine At.sR [1, 3, 4, 33] [0] [] ?_
      refine At.cd h (fun b91 h => ?_) (fun b91 h => ?_)
      · refine At.nR [1, 3, 4] [0] ?_
        refine At.skip (norm ?_)
        refine At.seq ?_
        refine At.block ?_
        refine At.seq ?_
        refine At.seqJ (S := Bool) (fun s => ⟨[(1, .ptr 0 0), (3, i64 x86), (4, i64 x87), (65, bo s)], [.blk 27 (T_api_Trace.pvs p0)]⟩) (fun s => F_retraceref32_Is_J2 p0 x86 x87 s = some oo88) ?_ ?_
        · obtain ⟨y144, hy144, h⟩ := bs h
          rcases cs h with ⟨b145, h⟩ | ⟨b145, h⟩
          · exact At.dK 0 [1, 3, 4, 65] [0] [eT T_api_Mark.enc_len 3 hy144, bT 8 b145] fun _ _ i => ⟨true, h, i⟩
          · obtain ⟨y146, hy146, h⟩ := bs h
            obtain ⟨y147, hy147, h⟩ := bs h
            rcases cs h with ⟨b148, h⟩ | ⟨b148, h⟩
            · exact At.dK 0 [1, 3, 4, 65] [0] [eT T_api_Mark.enc_len 3 hy144, bT 8 b145, eT T_api_Mark.enc_len 12 hy146, c0 18 (C_retraceref31_Begin p0.Events x86 y147 hy147), bT 21 b148] fun _ _ i => ⟨true, h, i⟩
            · obtain ⟨y149, hy149, h⟩ := bs h
              exact At.dK 0 [1, 3, 4, 65] [0] [eT T_api_Mark.enc_len 3 hy144, bT 8 b145, eT T_api_Mark.enc_len 12 hy146, c0 18 (C_retraceref31_Begin p0.Events x86 y147 hy147), bT 21 b148, eT T_api_Mark.enc_len 25 hy149] fun _ _ i => ⟨(decide (y149.Events < 0)), h, i⟩
        · intro x140 h
          refine At.cd h (fun b141 h => ?_) (fun b141 h => ?_)
          · refine At.sR [2] [] [] ?_
            obtain ⟨r142, h, e143⟩ := mr h
            rw [f89 _ e143] at h
            obtain rfl := sq h
            exact At.ret (At.rR hR [])
          · refine At.nR [1, 3, 4] [0] ?_
            refine At.skip (norm ?_)
            refine At.rG [1, 3, 4] [0] [] (norm ?_)
            exact At.rK [1, 3, 4] [0] [] fun _ _ i => ⟨_, li h, i⟩
      · refine At.nR [] [] ?_
        obtain ⟨r150, h, e151⟩ := mr h
        rw [f89 _ e151] at h
        refine At.exit (norm ?_)
        refine At.sR [2] [] [] ?_
        obtain rfl := sq h
        exact At.ret (At.rR hR [])
theorem C_retraceref32_Next (p0 : T_api_Trace) (p1 : T_api_Frame) (r : T_retraceref32_Got) (h : F_retraceref32_Next p0 p1 = some r) : FnOK Try.prog 17 [.agg (T_api_Trace.pvs p0), .agg (T_api_Frame.pvs p1)] [] (.agg (T_retraceref32_Got.pvs r)) [] [] := by
  refine fI Try.func17 rfl fun E gv R hR => ?_
  refine At.sR [2, 3, 4] [0, 1, 2] [] ?_
  refine At.sR [2, 3, 4, 5] [0, 1, 2, 3] [] ?_
  refine At.sR [2, 3, 4, 5, 6] [0, 1, 2, 3, 4] [] ?_
  refine At.sR [2, 3, 4, 5, 6, 7] [0, 1, 2, 3, 4] [] ?_
  refine At.seqJ (S := Bool × ByteArray × Int × Int × Int × Int × (List T_api_Event) × (List T_api_Mark)) (fun s => ⟨[(4, .ptr 0 0), (5, .ptr 1 0), (6, .ptr 2 0), (7, bo s.1)], [.blk 57 [u32 0, i64 0, i64 0, .d (.list true 0 []), .d (.list true 0 []), i64 0], .blk 91 [sv s.2.1, i64 s.2.2.1], .blk 27 [u32 s.2.2.2.1, i64 s.2.2.2.2.1, i64 s.2.2.2.2.2.1, lv T_api_Event.enc s.2.2.2.2.2.2.1, lv T_api_Mark.enc s.2.2.2.2.2.2.2]]⟩) (fun s => F_retraceref32_Next_J1 s.1 s.2.1 s.2.2.1 s.2.2.2.1 s.2.2.2.2.1 s.2.2.2.2.2.1 s.2.2.2.2.2.2.1 s.2.2.2.2.2.2.2 = some r) ?_ ?_
  · refine At.sR [2, 3, 4, 5, 6, 7, 23] [0, 1, 2, 3, 4] [] ?_
    refine At.block ?_
    refine At.seq ?_
    refine At.rK (st' := ⟨[(2, .ptr 0 0), (3, .ptr 1 0), (4, .ptr 2 0), (5, .ptr 3 0), (6, .ptr 4 0), (7, bo (p0.Every != 0)), (23, i64 p1.Kind), (25, bo (p1.Kind == 1))], [.blk 27 (T_api_Trace.pvs p0), .blk 39 (T_api_Frame.pvs p1), .blk 57 [u32 0, i64 0, i64 0, .d (.list true 0 []), .d (.list true 0 []), i64 0], .blk 91 [sv p1.Data, i64 0], .blk 27 (T_api_Trace.pvs p0)]⟩) [2, 3, 4, 5, 6, 7, 23, 25] [0, 1, 2, 3, 4] [] (norm ?_)
    refine At.cd h (fun b59 h => ?_) (fun b59 h => ?_)
    · obtain ⟨y61, hy61, h⟩ := bs h
      refine At.sR [2, 4, 5, 6, 8] [0, 2, 3, 4] [cT 1 1 [3] (C_retraceref03_Reader_Num (⟨p1.Data, 0⟩ : T_retraceref03_Reader) y61 hy61)] ?_
      obtain ⟨y64, hy64, h⟩ := bs h
      obtain ⟨y65, hy65, h⟩ := bs h
      refine At.sR [2, 4, 5, 6, 8] [0, 1, 2, 3] [cT 3 1 [2] (C_retraceref03_Reader_Upto 1048576 y61.2 y64 hy64), cT 5 1 [2] (C_retraceref03_Reader_Upto 1048576 y64.2 y65 hy65)] ?_
      rcases cs h with ⟨b66, h⟩ | ⟨b66, h⟩
      · obtain ⟨y67, hy67, h⟩ := bs h
        exact At.rG [4, 5, 6, 7] [1, 2, 3] [bT 2 b66, c0 5 (C_retraceref32_Same p0 (⟨0, 0, 0, ([] : (List T_api_Event)), ([] : (List T_api_Mark))⟩ : T_api_Trace) y67 hy67)] fun _ _ i => ⟨(y67, y65.2.S, y65.2.Bad, (wu32 y61.1), y64.1, y65.1, ([] : List T_api_Event), ([] : List T_api_Mark)), h, i.en [.loO 2] [4, 5, 6, 7] [0, 1, 2]⟩
      · exact At.rG [4, 5, 6, 7] [1, 2, 3] [bT 2 b66] fun _ _ i => ⟨(false, y65.2.S, y65.2.Bad, (wu32 y61.1), y64.1, y65.1, ([] : List T_api_Event), ([] : List T_api_Mark)), h, i.en [.loO 2] [4, 5, 6, 7] [0, 1, 2]⟩
    · refine At.sR [2, 3, 4, 5, 6, 7, 23, 43] [0, 1, 2, 3, 4] [] ?_
      refine At.cd h (fun b68 h => ?_) (fun b68 h => ?_)
      · obtain ⟨y70, hy70, h⟩ := bs h
        refine At.sR [2, 4, 5, 6, 7, 9] [0, 2, 3, 4, 5] [c0 2 (C_retraceref31_Get p1.Data y70 hy70)] ?_
        refine At.seq ?_
        refine At.sR [2, 4, 5, 6, 7, 9, 50] [0, 1, 2, 3, 4] [] ?_
        refine At.cd h (fun b72 h => ?_) (fun b72 h => ?_)
        · refine At.sR [4] [1] [] ?_
          refine At.eN [.loO 0] [4] [0] ?_
          obtain rfl := sq h
          exact At.ret (At.rR hR [])
        · refine At.nR [2, 4, 5, 6, 7, 9] [0, 1, 2, 3, 4] ?_
          refine At.skip (norm ?_)
          refine At.sR [2, 4, 5, 6, 7, 9] [0, 1, 2, 3, 4] [] ?_
          obtain ⟨g73, h⟩ := gs h
          obtain ⟨g74, h⟩ := gs h
          exact At.dG 1 [4, 5, 6, 7] [1, 2, 3, 5] [aT T_api_Event.enc_len 3 ([] : List T_api_Event) p0.Events rfl g73, aT T_api_Event.enc_len 6 (([] : List T_api_Event) ++ p0.Events) y70.L rfl g74] fun _ _ i => ⟨((p0.Every != 0), (⟨#[]⟩ : ByteArray), 0, p0.Sum, p0.Fuel, p0.Every, ((([] : List T_api_Event) ++ p0.Events) ++ y70.L), p0.Marks), h, i.en [.settle 3] [4, 5, 6, 7] [0, 1, 2]⟩
      · refine At.sR [2, 4, 5, 6, 7, 23, 65] [0, 2, 3, 4] [] ?_
        refine At.cd h (fun b75 h => ?_) (fun b75 h => ?_)
        · obtain ⟨y78, hy78, h⟩ := bs h
          obtain ⟨y79, hy79, h⟩ := bs h
          refine At.sR [2, 4, 5, 6, 7, 10] [0, 1, 2, 3, 4] [cT 1 1 [2] (C_retraceref03_Reader_Upto 1048576 (⟨p1.Data, 0⟩ : T_retraceref03_Reader) y78 hy78), cT 3 1 [2] (C_retraceref03_Reader_Upto 1048576 y78.2 y79 hy79)] ?_
          obtain ⟨y81, hy81, h⟩ := bs h
          refine At.sR [2, 4, 5, 6, 7, 10] [0, 1, 2, 3, 4] [cT 1 1 [2] (C_retraceref30_Read y79.2 y81 hy81)] ?_
          obtain ⟨g82, h⟩ := gs h
          obtain ⟨g83, h⟩ := gs h
          exact At.dG 2 [4, 5, 6, 7] [1, 2, 3, 5] [aT T_api_Mark.enc_len 3 ([] : List T_api_Mark) p0.Marks rfl g82, aT T_api_Mark.enc_len 6 (([] : List T_api_Mark) ++ p0.Marks) ([(⟨y78.1, y79.1, y81.1⟩ : T_api_Mark)]) rfl g83] fun _ _ i => ⟨((p0.Every != 0), y81.2.S, y81.2.Bad, p0.Sum, p0.Fuel, p0.Every, p0.Events, ((([] : List T_api_Mark) ++ p0.Marks) ++ [(⟨y78.1, y79.1, y81.1⟩ : T_api_Mark)])), h, i.en [.settle 3] [4, 5, 6, 7] [0, 1, 2]⟩
        · refine At.sR [2, 4, 5, 6, 7, 83] [0, 1, 2, 3] [] ?_
          refine At.cd h (fun b84 h => ?_) (fun b84 h => ?_)
          · obtain ⟨y87, hy87, h⟩ := bs h
            obtain ⟨y88, hy88, h⟩ := bs h
            refine At.sR [2, 4, 5, 6, 7, 11, 12] [0, 1, 2, 3] [cT 1 1 [2] (C_retraceref03_Reader_Num (⟨p1.Data, 0⟩ : T_retraceref03_Reader) y87 hy87), cT 3 1 [2] (C_retraceref03_Reader_Num y87.2 y88 hy88)] ?_
            rcases cs h with ⟨b89, h⟩ | ⟨b89, h⟩
            · rcases cs h with ⟨b90, h⟩ | ⟨b90, h⟩
              · exact At.rK [4, 5, 6, 7] [1, 2, 3] [bT 1 b89, bT 9 b90] fun _ _ i => ⟨((y88.1 == (wu64 ((p0.Marks).length : Int))), y88.2.S, y88.2.Bad, p0.Sum, p0.Fuel, p0.Every, p0.Events, p0.Marks), h, i⟩
              · exact At.rK [4, 5, 6, 7] [1, 2, 3] [bT 1 b89, bT 9 b90] fun _ _ i => ⟨(false, y88.2.S, y88.2.Bad, p0.Sum, p0.Fuel, p0.Every, p0.Events, p0.Marks), h, i⟩
            · exact At.rK [4, 5, 6, 7] [1, 2, 3] [bT 1 b89] fun _ _ i => ⟨(false, y88.2.S, y88.2.Bad, p0.Sum, p0.Fuel, p0.Every, p0.Events, p0.Marks), h, i⟩
          · refine At.sR [4] [1] [] ?_
            refine At.eN [.loO 0] [4] [0] ?_
            obtain rfl := sq h
            exact At.ret (At.rR hR [])
  · rintro ⟨x33, x34, x35, x36, x37, x38, x39, x40⟩ h
    replace h : F_retraceref32_Next_J1 x33 x34 x35 x36 x37 x38 x39 x40 = some r := h
    refine At.seq ?_
    obtain ⟨y45, hy45, h⟩ := bs h
    refine At.sR [4, 6, 7, 13] [0, 2] [cT 1 1 [1] (C_retraceref03_Reader_End (⟨x34, x35⟩ : T_retraceref03_Reader) y45 hy45)] ?_
    refine At.sR [4, 6, 7, 13, 109] [0, 1] [] ?_
    refine At.cd h (fun b46 h => ?_) (fun b46 h => ?_)
    · refine At.sR [4] [0] [] ?_
      refine At.eN [.loO 0] [4] [0] ?_
      obtain rfl := sq h
      exact At.ret (At.rR hR [])
    · refine At.nR [4, 6, 7] [0, 1] ?_
      refine At.skip (norm ?_)
      refine At.seq ?_
      refine At.seqJ (S := Bool) (fun s => ⟨[(4, .ptr 0 0), (6, .ptr 1 0), (118, bo s)], [.blk 57 [u32 0, i64 0, i64 0, .d (.list true 0 []), .d (.list true 0 []), i64 0], .blk 27 [u32 x36, i64 x37, i64 x38, lv T_api_Event.enc x39, lv T_api_Mark.enc x40]]⟩) (fun s => F_retraceref32_Next_J2 x36 x37 x38 x39 x40 s = some r) ?_ ?_
      · rcases cs h with ⟨b57, h⟩ | ⟨b57, h⟩
        · exact At.rK [4, 6, 118] [0, 1] [bT 2 b57] fun _ _ i => ⟨true, h, i⟩
        · obtain ⟨y58, hy58, h⟩ := bs h
          exact At.rK [4, 6, 118] [0, 1] [bT 2 b57, c0 4 (C_retraceref32_Is (⟨x36, x37, x38, x39, x40⟩ : T_api_Trace) y58 hy58)] fun _ _ i => ⟨(!y58), h, i⟩
      · intro x55 h
        refine At.cd h (fun b56 h => ?_) (fun b56 h => ?_)
        · refine At.sR [4] [0] [] ?_
          refine At.eN [.loO 0] [4] [0] ?_
          obtain rfl := sq h
          exact At.ret (At.rR hR [])
        · refine At.nR [4, 6] [0, 1] ?_
          refine At.skip (norm ?_)
          refine At.sR [4] [0] [] ?_
          obtain rfl := sq h
          exact At.ret (At.rR hR [])
theorem C_retraceref33_Of (p0 : ByteArray) (r : T_retraceref33_Got) (h : F_retraceref33_Of p0 = some r) : FnOK Try.prog 7 [sv p0] [] (.agg (T_retraceref33_Got.pvs r)) [] [] := by
  refine fI Try.func7 rfl fun E gv R hR => ?_
  refine At.sR [0, 2] [0] [] ?_
  refine At.sR [0, 2, 3] [0, 1] [] ?_
  refine At.block ?_
  refine At.nK (st' := ⟨[(0, sv p0), (2, .ptr 0 0), (3, .ptr 1 0)], [.blk 32 [u32 0, i64 0, i64 0, .d (.list true 0 []), .d (.list true 0 []), i64 0, i64 0], .blk 32 [u32 0, i64 0, i64 0, .d (.list true 0 []), .d (.list true 0 []), i64 0, i64 0]]⟩) [0, 2, 3] [0, 1] ?_
  refine At.edNar [.loO 1] [0, 2, 3] [0, 1] (st' := ⟨[(0, sv p0), (2, .ptr 0 0), (3, .ptr 1 0)], [.blk 32 [u32 0, i64 0, i64 0, .d (.list true 0 []), .d (.list true 0 []), i64 0, i64 0], .blk 32 [u32 0, i64 0, i64 0, lv T_api_Event.enc ([] : List T_api_Event), lv T_api_Mark.enc ([] : List T_api_Mark), i64 0, i64 0]]⟩) (by kernel_rfl) ?_
  refine At.lp (fun s : (Int × Int × Int × (List T_api_Event) × (List T_api_Mark) × Int) => ⟨[(0, sv p0), (2, .ptr 0 0), (3, .ptr 1 0)], [.blk 32 [u32 0, i64 0, i64 0, .d (.list true 0 []), .d (.list true 0 []), i64 0, i64 0], .blk 32 [u32 s.1, i64 s.2.1, i64 s.2.2.1, lv T_api_Event.enc s.2.2.2.1, lv T_api_Mark.enc s.2.2.2.2.1, i64 s.2.2.2.2.2, i64 0]]⟩) h ?_
  rintro ⟨x1, x2, x3, x4, x5, x6⟩ oo7 h f8
  replace h : F_retraceref33_Of_L2 p0 x1 x2 x3 x4 x5 x6 = some oo7 := h
  refine At.block ?_
  obtain ⟨y10, hy10, h⟩ := bs h
  refine At.sR [0, 2, 3, 4] [0, 1, 2] [c0 3 (C_retraceref04_Next p0 x6 y10 hy10)] ?_
  refine At.seq ?_
  refine At.sR [0, 2, 3, 4, 12] [0, 1, 2] [] ?_
  refine At.cd h (fun b12 h => ?_) (fun b12 h => ?_)
  · refine At.sR [2, 3] [0, 1] [] ?_
    refine At.sR [2] [0] [] ?_
    obtain ⟨r13, h, e14⟩ := mr h
    rw [f8 _ e14] at h
    obtain rfl := sq h
    exact At.ret (At.rR hR [])
  · refine At.nR [0, 2, 3, 4] [0, 1, 2] ?_
    refine At.skip (norm ?_)
    obtain ⟨y16, hy16, h⟩ := bs h
    refine At.sR [0, 2, 3, 4, 5] [0, 1, 2, 3] [c0 4 (C_retraceref32_Next (⟨x1, x2, x3, x4, x5⟩ : T_api_Trace) y10.F y16 hy16)] ?_
    refine At.seq ?_
    refine At.sR [0, 2, 3, 4, 5, 24] [0, 1, 2, 3] [] ?_
    refine At.cd h (fun b18 h => ?_) (fun b18 h => ?_)
    · refine At.seq ?_
      refine At.rK (st' := ⟨[(2, .ptr 0 0), (3, .ptr 1 0)], [.blk 32 [u32 0, i64 0, i64 0, .d (.list true 0 []), .d (.list true 0 []), i64 0, i64 0], .blk 32 [u32 x1, i64 x2, i64 x3, lv T_api_Event.enc x4, lv T_api_Mark.enc x5, i64 x6, i64 y16.E]]⟩) [2, 3] [0, 1] [] (norm ?_)
      refine At.sR [2] [0] [] ?_
      obtain ⟨r19, h, e20⟩ := mr h
      rw [f8 _ e20] at h
      obtain rfl := sq h
      exact At.ret (At.rR hR [])
    · refine At.nK (st' := ⟨[(0, sv p0), (2, .ptr 0 0), (3, .ptr 1 0), (4, .ptr 2 0), (5, .ptr 3 0)], [.blk 32 [u32 0, i64 0, i64 0, .d (.list true 0 []), .d (.list true 0 []), i64 0, i64 0], .blk 32 [u32 x1, i64 x2, i64 x3, lv T_api_Event.enc x4, lv T_api_Mark.enc x5, i64 x6, i64 0], .blk 54 (T_retraceref04_Got.pvs y10), .blk 57 (T_retraceref32_Got.pvs y16)]⟩) [0, 2, 3, 4, 5] [0, 1, 2, 3] ?_
      refine At.skip (norm ?_)
      refine At.sD 0 [0, 2, 3, 4] [0, 1, 2] [] ?_
      refine At.sR [0, 2, 3, 38] [0, 1] [] ?_
      refine At.cd h (fun b21 h => ?_) (fun b21 h => ?_)
      · refine At.seqJ (S := Int) (fun s => ⟨[(2, .ptr 0 0), (3, .ptr 1 0)], [.blk 32 [u32 0, i64 0, i64 0, .d (.list true 0 []), .d (.list true 0 []), i64 0, i64 0], .blk 32 (T_api_Trace.pvs y16.T ++ [i64 y10.Next, i64 s])]⟩) (fun s => F_retraceref33_Of_J1 y10 y16 s = some oo7) ?_ ?_
        · refine At.sR [2, 3, 43] [0, 1] [] ?_
          refine At.cd h (fun b26 h => ?_) (fun b26 h => ?_)
          · exact At.rK [2, 3] [0, 1] [] fun _ _ i => ⟨3, h, i⟩
          · refine At.nR [2, 3] [0, 1] ?_
            refine At.skip (fun _ _ i => ⟨0, h, i.en [] [2, 3] [0, 1]⟩)
        · intro x23 h
          refine At.sR [2] [0] [] ?_
          obtain ⟨r24, h, e25⟩ := mr h
          rw [f8 _ e25] at h
          obtain rfl := sq h
          exact At.ret (At.rR hR [])
      · refine At.nR [0, 2, 3] [0, 1] ?_
        refine At.skip (fun _ _ i => ⟨_, li h, i.en [] [0, 2, 3] [0, 1]⟩)
theorem C_retraceref04_Right (p0 : (List T_api_Frame)) (r : Bool) (h : F_retraceref04_Right p0 = some r) : FnOK Try.prog 9 [lv T_api_Frame.enc p0] [] (bo r) [] [] := by
  refine fI Try.func9 rfl fun E gv R hR => ?_
  refine At.sR [0] [] [] ?_
  refine At.seq ?_
  refine At.sR [0, 3] [] [] ?_
  refine At.block ?_
  refine At.nK (st' := ⟨[(0, lv T_api_Frame.enc p0), (3, i64 0)], []⟩) [0, 3] [] ?_
  refine At.lp (fun s : (Int) => ⟨[(0, lv T_api_Frame.enc p0), (3, i64 s)], []⟩) h ?_
  intro x26 oo27 h f28
  replace h : F_retraceref04_Right_L2 p0 x26 = some oo27 := h
  refine At.seq ?_
  refine At.sR [0, 3, 7] [] [] ?_
  refine At.cd h (fun b30 h => ?_) (fun b30 h => ?_)
  · refine At.nR [0, 3] [] ?_
    refine At.skip (norm ?_)
    refine At.seq ?_
    refine At.block ?_
    refine At.seqJ (S := Bool) (fun s => ⟨[(0, lv T_api_Frame.enc p0), (3, i64 x26), (23, bo s)], []⟩) (fun s => F_retraceref04_Right_J1 x26 s = some oo27) ?_ ?_
    · obtain ⟨y46, hy46, h⟩ := bs h
      rcases cs h with ⟨b47, h⟩ | ⟨b47, h⟩
      · exact At.rK [0, 3, 23] [] [eT T_api_Frame.enc_len 2 hy46, bT 6 b47] fun _ _ i => ⟨true, h, i⟩
      · obtain ⟨y48, hy48, h⟩ := bs h
        exact At.rK [0, 3, 23] [] [eT T_api_Frame.enc_len 2 hy46, bT 6 b47, eT T_api_Frame.enc_len 9 hy48] fun _ _ i => ⟨(decide (255 < y48.Kind)), h, i⟩
    · intro x42 h
      refine At.cd h (fun b43 h => ?_) (fun b43 h => ?_)
      · refine At.sR [2] [] [] ?_
        obtain ⟨r44, h, e45⟩ := mr h
        rw [f28 _ e45] at h
        obtain rfl := sq h
        exact At.ret (At.rR hR [])
      · refine At.nR [0, 3] [] ?_
        refine At.skip (norm ?_)
        exact At.rK [0, 3] [] [] fun _ _ i => ⟨_, li h, i⟩
  · refine At.nR [] [] ?_
    obtain ⟨r49, h, e50⟩ := mr h
    rw [f28 _ e50] at h
    refine At.exit (norm ?_)
    refine At.sR [2] [] [] ?_
    obtain rfl := sq h
    exact At.ret (At.rR hR [])
theorem C_retraceref01_Num_B (self : Int → Option (ByteArray)) (hself : ∀ (p0 : Int) (r : ByteArray), self p0 = some r → FnOK Try.prog 46 [u64 p0] [] (sv r) [] []) (p0 : Int) (r : ByteArray) (h : F_retraceref01_Num_B self p0 = some r) : FnOK Try.prog 46 [u64 p0] [] (sv r) [] [] := by
  refine fI Try.func46 rfl fun E gv R hR => ?_
  refine At.sR [0] [] [] ?_
  refine At.seq ?_
  refine At.sR [0, 4] [] [] ?_
  refine At.cd h (fun b2 h => ?_) (fun b2 h => ?_)
  · refine At.sR [2] [] [tT 3 ({ orc := .nums ([(wu8 p0)]) }) (allc (encL_map .u8 ([(wu8 p0)])) (allc (rfl : (([(wu8 p0)])).length = (([(wu8 p0)])).length) all0))] ?_
    obtain rfl := sq h
    exact At.ret (At.rR hR [])
  · refine At.nR [0] [] ?_
    refine At.skip (norm ?_)
    obtain ⟨y5, hy5, h⟩ := bs h
    obtain ⟨g6, h⟩ := gs h
    refine At.sD 1 [2] [] [oT 1 (by decide : 128 ≠ (0:Int)), tT 5 ({ orc := .nums ([(wu8 ((wu8 (Int.tmod p0 128)) + 128))]) }) (allc (encL_map .u8 ([(wu8 ((wu8 (Int.tmod p0 128)) + 128))])) (allc (rfl : (([(wu8 ((wu8 (Int.tmod p0 128)) + 128))])).length = (([(wu8 ((wu8 (Int.tmod p0 128)) + 128))])).length) all0)), oT 7 (by decide : 128 ≠ (0:Int)), c0 8 (hself (wu64 (Int.tdiv p0 128)) y5 hy5), oT 9 g6] ?_
    obtain rfl := sq h
    exact At.ret (At.rR hR [])
theorem C_retraceref01_Num_N : ∀ (n : Nat) (p0 : Int) (r : ByteArray), F_retraceref01_Num_N n p0 = some r → FnOK Try.prog 46 [u64 p0] [] (sv r) [] []
  | 0, _, _, h => by simp [F_retraceref01_Num_N] at h
  | n + 1, p0, r, h => C_retraceref01_Num_B (F_retraceref01_Num_N n) (C_retraceref01_Num_N n) p0 r h
theorem C_retraceref01_Num (p0 : Int) (r : ByteArray) (h : F_retraceref01_Num p0 = some r) : FnOK Try.prog 46 [u64 p0] [] (sv r) [] [] := by
  obtain ⟨n, h⟩ := lim_some h
  exact C_retraceref01_Num_N n p0 r h
theorem C_retraceref04_Bytes (p0 : T_api_Frame) (r : ByteArray × Int) (h : F_retraceref04_Bytes p0 = some r) : FnOK Try.prog 20 [.agg (T_api_Frame.pvs p0)] [] (.tup [sv r.1, i64 r.2]) [] [] := by
  refine fI Try.func20 rfl fun E gv R hR => ?_
  refine At.sR [1] [0] [] ?_
  refine At.seq ?_
  refine At.seqJ (S := Bool) (fun s => ⟨[(1, .ptr 0 0), (12, bo s)], [.blk 39 (T_api_Frame.pvs p0)]⟩) (fun s => F_retraceref04_Bytes_J1 p0 s = some r) ?_ ?_
  · rcases cs h with ⟨b22, h⟩ | ⟨b22, h⟩
    · exact At.rK [1, 12] [0] [bT 3 b22] fun _ _ i => ⟨true, h, i⟩
    · exact At.rK [1, 12] [0] [bT 3 b22] fun _ _ i => ⟨(decide (255 < p0.Kind)), h, i⟩
  · intro x6 h
    refine At.cd h (fun b7 h => ?_) (fun b7 h => ?_)
    · refine At.sR [2, 3] [] [] ?_
      obtain rfl := sq h
      exact At.ret (At.rR hR [])
    · refine At.nR [1] [0] ?_
      refine At.skip (norm ?_)
      refine At.seq ?_
      refine At.sR [1, 16] [0] [] ?_
      refine At.cd h (fun b9 h => ?_) (fun b9 h => ?_)
      · refine At.sR [2, 3] [] [] ?_
        obtain rfl := sq h
        exact At.ret (At.rR hR [])
      · refine At.nR [1] [0] ?_
        refine At.skip (norm ?_)
        obtain ⟨y13, hy13, h⟩ := bs h
        obtain ⟨g14, h⟩ := gs h
        obtain ⟨g15, h⟩ := gs h
        refine At.sD 1 [4] [] [tT 4 ({ orc := .nums ([(wu8 p0.Kind)]) }) (allc (encL_map .u8 ([(wu8 p0.Kind)])) (allc (rfl : (([(wu8 p0.Kind)])).length = (([(wu8 p0.Kind)])).length) all0)), c0 9 (C_retraceref01_Num (wu64 (p0.Data.size : Int)) y13 hy13), oT 10 g14, oT 13 g15] ?_
        obtain ⟨y19, hy19, h⟩ := bs h
        obtain ⟨y20, hy20, h⟩ := bs h
        obtain ⟨g21, h⟩ := gs h
        refine At.sR [2, 3] [] [c0 2 (C_retraceref02_Sum (((strOfNums ([(wu8 p0.Kind)])) ++ y13) ++ p0.Data) y19 hy19), c0 3 (C_retraceref02_Bytes y19 y20 hy20), oT 4 g21] ?_
        obtain rfl := sq h
        exact At.ret (At.rR hR [])
theorem C_retraceref04_Joined (p0 : (List T_api_Frame)) (r : ByteArray × (List Int)) (h : F_retraceref04_Joined p0 = some r) : FnOK Try.prog 10 [lv T_api_Frame.enc p0] [] (.tup [sv r.1, .row 0 (r.2).length]) [.row 3 1 (encL (eInt .i64) r.2)] [] := by
  refine fI Try.func10 rfl fun E gv R hR => ?_
  refine At.sR [0] [] [] ?_
  refine At.sR [0, 4] [] [] ?_
  refine At.sR [0, 4, 5] [] [] ?_
  refine At.seq ?_
  refine At.sR [0, 4, 5, 6] [] [] ?_
  refine At.block ?_
  refine At.nK (st' := ⟨[(0, lv T_api_Frame.enc p0), (4, sv (⟨#[]⟩ : ByteArray)), (5, .d (.list true 0 [])), (6, i64 0)], []⟩) [0, 4, 5, 6] [] ?_
  refine At.edNar [.ownS 5 3 1] [0, 4, 5, 6] [0] (st' := ⟨[(0, lv T_api_Frame.enc p0), (4, sv (⟨#[]⟩ : ByteArray)), (5, .row 0 ([] : List Int).length), (6, i64 0)], [.row 3 1 (encL (eInt .i64) ([]))]⟩) (by kernel_rfl) ?_
  refine At.lp (fun s : (ByteArray × Int × (List Int)) => ⟨[(0, lv T_api_Frame.enc p0), (4, sv s.1), (5, .row 0 (s.2.2).length), (6, i64 s.2.1)], [.row 3 1 (encL (eInt .i64) s.2.2)]⟩) h ?_
  rintro ⟨x24, x25, x26⟩ oo27 h f28
  replace h : F_retraceref04_Joined_L1 p0 x24 x25 x26 = some oo27 := h
  refine At.seq ?_
  refine At.sR [0, 4, 5, 6, 12] [0] [] ?_
  refine At.cd h (fun b30 h => ?_) (fun b30 h => ?_)
  · refine At.nR [0, 4, 5, 6] [0] ?_
    refine At.skip (norm ?_)
    refine At.seq ?_
    refine At.block ?_
    obtain ⟨g39, h⟩ := gs h
    refine At.sR [0, 4, 5, 6] [0] [aT (he_int .i64) 4 x26 ([(x24.size : Int)]) rfl g39] ?_
    obtain ⟨y42, hy42, h⟩ := bs h
    obtain ⟨y43, hy43, h⟩ := bs h
    refine At.sR [0, 4, 5, 6, 7] [0] [eT T_api_Frame.enc_len 2 hy42, c0 4 (C_retraceref04_Bytes y42 y43 hy43)] ?_
    obtain ⟨g44, h⟩ := gs h
    refine At.rG [0, 4, 5, 6] [0] [oT 2 g44] (norm ?_)
    exact At.rK [0, 4, 5, 6] [0] [] fun _ _ i => ⟨_, li h, i⟩
  · refine At.nR [4, 5] [0] ?_
    obtain ⟨r45, h, e46⟩ := mr h
    rw [f28 _ e46] at h
    refine At.exit (norm ?_)
    obtain ⟨g48, h⟩ := gs h
    refine At.sR [2, 3] [0] [aT (he_int .i64) 5 x26 ([(x24.size : Int)]) rfl g48] ?_
    obtain rfl := sq h
    exact At.ret (At.rR hR [0])
theorem C_retracelaw33_SalvageFrames (p0 : (List T_api_Frame)) (p1 : ByteArray) (r : Bool) (h : F_retracelaw33_SalvageFrames p0 p1 = some r) : FnOK Try.prog 4 [lv T_api_Frame.enc p0, sv p1] [] (bo r) [] [] := by
  refine fI Try.func4 rfl fun E gv R hR => ?_
  refine At.sR [0, 1] [] [] ?_
  refine At.seq ?_
  refine At.seqJ (S := Bool) (fun s => ⟨[(0, lv T_api_Frame.enc p0), (1, sv p1), (24, bo s)], []⟩) (fun s => F_retracelaw33_SalvageFrames_J1 p0 p1 s = some r) ?_ ?_
  · rcases cs h with ⟨b77, h⟩ | ⟨b77, h⟩
    · exact At.rK [0, 1, 24] [] [bT 3 b77] fun _ _ i => ⟨true, h, i⟩
    · rcases cs h with ⟨b78, h⟩ | ⟨b78, h⟩
      · exact At.rK [0, 1, 24] [] [bT 3 b77, bT 8 b78] fun _ _ i => ⟨true, h, i⟩
      · obtain ⟨y79, hy79, h⟩ := bs h
        exact At.rK [0, 1, 24] [] [bT 3 b77, bT 8 b78, c0 10 (C_retraceref04_Right p0 y79 hy79)] fun _ _ i => ⟨(!y79), h, i⟩
  · intro x14 h
    refine At.cd h (fun b15 h => ?_) (fun b15 h => ?_)
    · obtain ⟨y17, hy17, h⟩ := bs h
      refine At.sR [4] [] [c0 0 (C_retracelaw33_live y17 hy17)] ?_
      obtain rfl := sq h
      exact At.ret (At.rR hR [])
    · refine At.nR [0, 1] [] ?_
      refine At.skip (norm ?_)
      refine At.seq ?_
      refine At.sR [0, 1, 5] [] [] ?_
      refine At.block ?_
      refine At.nK (st' := ⟨[(0, lv T_api_Frame.enc p0), (1, sv p1), (5, i64 0)], []⟩) [0, 1, 5] [] ?_
      refine At.lp (fun s : (Int) => ⟨[(0, lv T_api_Frame.enc p0), (1, sv p1), (5, i64 s)], []⟩) h ?_
      intro x37 oo38 h f39
      replace h : F_retracelaw33_SalvageFrames_L3 p0 p1 x37 = some oo38 := h
      refine At.seq ?_
      refine At.sR [0, 1, 5, 29] [] [] ?_
      refine At.cd h (fun b41 h => ?_) (fun b41 h => ?_)
      · refine At.nR [0, 1, 5] [] ?_
        refine At.skip (norm ?_)
        refine At.seq ?_
        refine At.block ?_
        obtain ⟨y48, hy48, h⟩ := bs h
        refine At.sR [0, 1, 5, 38] [] [eT T_api_Frame.enc_len 2 hy48] ?_
        refine At.cd h (fun b49 h => ?_) (fun b49 h => ?_)
        · obtain ⟨y51, hy51, h⟩ := bs h
          refine At.sR [4] [] [c0 0 (C_retracelaw33_live y51 hy51)] ?_
          obtain ⟨r52, h, e53⟩ := mr h
          rw [f39 _ e53] at h
          obtain rfl := sq h
          exact At.ret (At.rR hR [])
        · refine At.nR [0, 1, 5] [] ?_
          refine At.skip (norm ?_)
          exact At.rK [0, 1, 5] [] [] fun _ _ i => ⟨_, li h, i⟩
      · refine At.nR [0, 1] [] ?_
        obtain ⟨r54, h, e55⟩ := mr h
        rw [f39 _ e55] at h
        refine At.exit (norm ?_)
        obtain ⟨y57, hy57, h⟩ := bs h
        refine At.sR [1, 6] [] [cT 1 0 [0] (C_retraceref04_Joined p0 y57 hy57)] ?_
        obtain ⟨g60, h⟩ := gs h
        obtain ⟨y61, hy61, h⟩ := bs h
        refine At.sR [1, 6, 8, 9, 10] [0] [oT 2 g60, c0 3 (C_salvage_Of (y57.1 ++ p1) y61 hy61)] ?_
        obtain ⟨g64, h⟩ := gs h
        obtain ⟨y65, hy65, h⟩ := bs h
        refine At.sR [8, 9, 10, 11] [0, 1] [oT 2 g64, c0 3 (C_retraceref33_Of (y57.1 ++ p1) y65 hy65)] ?_
        refine At.seqJ (S := Bool) (fun s => ⟨[(4, bo s)], []⟩) (fun s => F_retracelaw33_SalvageFrames_J2 s = some r) ?_ ?_
        · obtain ⟨y72, hy72, h⟩ := bs h
          rcases cs h with ⟨b73, h⟩ | ⟨b73, h⟩
          · rcases cs h with ⟨b74, h⟩ | ⟨b74, h⟩
            · rcases cs h with ⟨b75, h⟩ | ⟨b75, h⟩
              · obtain ⟨y76, hy76, h⟩ := bs h
                exact At.rK [4] [] [c0 3 (C_retraceref32_Same y61.1 y65.T y72 hy72), bT 4 b73, bT 10 b74, bT 16 b75, c0 17 (C_retracelaw33_live y76 hy76)] fun _ _ i => ⟨y76, h, i⟩
              · exact At.rK [4] [] [c0 3 (C_retraceref32_Same y61.1 y65.T y72 hy72), bT 4 b73, bT 10 b74, bT 16 b75] fun _ _ i => ⟨false, h, i⟩
            · exact At.rK [4] [] [c0 3 (C_retraceref32_Same y61.1 y65.T y72 hy72), bT 4 b73, bT 10 b74] fun _ _ i => ⟨false, h, i⟩
          · exact At.rK [4] [] [c0 3 (C_retraceref32_Same y61.1 y65.T y72 hy72), bT 4 b73] fun _ _ i => ⟨false, h, i⟩
        · intro x71 h
          obtain rfl := sq h
          exact At.ret (At.rR hR [])
end Go.Ab
