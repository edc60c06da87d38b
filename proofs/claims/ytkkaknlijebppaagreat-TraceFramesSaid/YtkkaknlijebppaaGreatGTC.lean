/- GTC -/
import Derived.Test.YtkkaknlijebppaaGreatGT1
namespace Go.Ab
open Go.Proofs
set_option linter.unusedVariables false
set_option maxRecDepth 100000
theorem C_retraceref28_Same (p0 : T_api_State) (p1 : T_api_State) (r : Bool) (h : F_retraceref28_Same p0 p1 = some r) : FnOK Tryz.prog 20 [.agg (T_api_State.pvs p0), .agg (T_api_State.pvs p1)] [] (bo r) [] [] := by
  refine fI Tryz.func20 rfl fun E gv R hR => ?_
  refine At.sR [2, 3] [0, 1] [] ?_
  refine At.seq ?_
  refine At.seqJ (S := Bool) (fun s => ⟨[(2, .ptr 0 0), (3, .ptr 1 0), (55, bo s)], [.blk 58 (T_api_State.pvs p0), .blk 58 (T_api_State.pvs p1)]⟩) (fun s => F_retraceref28_Same_J1 p0 p1 s = some r) ?_ ?_
  · rcases cs h with ⟨b72, h⟩ | ⟨b72, h⟩
    · exact At.rK [2, 3, 55] [0, 1] [bT 5 b72] fun _ _ i => ⟨true, h, i⟩
    · rcases cs h with ⟨b73, h⟩ | ⟨b73, h⟩
      · exact At.rK [2, 3, 55] [0, 1] [bT 5 b72, bT 12 b73] fun _ _ i => ⟨true, h, i⟩
      · rcases cs h with ⟨b74, h⟩ | ⟨b74, h⟩
        · exact At.rK [2, 3, 55] [0, 1] [bT 5 b72, bT 12 b73, bT 19 b74] fun _ _ i => ⟨true, h, i⟩
        · rcases cs h with ⟨b75, h⟩ | ⟨b75, h⟩
          · exact At.rK [2, 3, 55] [0, 1] [bT 5 b72, bT 12 b73, bT 19 b74, bT 26 b75] fun _ _ i => ⟨true, h, i⟩
          · rcases cs h with ⟨b76, h⟩ | ⟨b76, h⟩
            · exact At.rK [2, 3, 55] [0, 1] [bT 5 b72, bT 12 b73, bT 19 b74, bT 26 b75, bT 33 b76] fun _ _ i => ⟨true, h, i⟩
            · obtain ⟨y77, hy77, h⟩ := bs h
              rcases cs h with ⟨b78, h⟩ | ⟨b78, h⟩
              · exact At.rK [2, 3, 55] [0, 1] [bT 5 b72, bT 12 b73, bT 19 b74, bT 26 b75, bT 33 b76, c0 38 (C_retraceref03_Same p0.Out p1.Out y77 hy77), bT 41 b78] fun _ _ i => ⟨true, h, i⟩
              · exact At.rK [2, 3, 55] [0, 1] [bT 5 b72, bT 12 b73, bT 19 b74, bT 26 b75, bT 33 b76, c0 38 (C_retraceref03_Same p0.Out p1.Out y77 hy77), bT 41 b78] fun _ _ i => ⟨(((p0.Procs).length : Int) != ((p1.Procs).length : Int)), h, i⟩
  · intro x24 h
    refine At.cd h (fun b25 h => ?_) (fun b25 h => ?_)
    · refine At.sR [4] [] [] ?_
      obtain rfl := sq h
      exact At.ret (At.rR hR [])
    · refine At.nR [2, 3] [0, 1] ?_
      refine At.skip (norm ?_)
      refine At.seq ?_
      refine At.sR [2, 3, 5] [0, 1] [] ?_
      refine At.block ?_
      refine At.nK (st' := ⟨[(2, .ptr 0 0), (3, .ptr 1 0), (5, i64 0)], [.blk 58 (T_api_State.pvs p0), .blk 58 (T_api_State.pvs p1)]⟩) [2, 3, 5] [0, 1] ?_
      refine At.lp (fun s : (Int) => ⟨[(2, .ptr 0 0), (3, .ptr 1 0), (5, i64 s)], [.blk 58 (T_api_State.pvs p0), .blk 58 (T_api_State.pvs p1)]⟩) h ?_
      intro x49 oo50 h f51
      replace h : F_retraceref28_Same_L2 p0 p1 x49 = some oo50 := h
      refine At.seq ?_
      refine At.sR [2, 3, 5, 60] [0, 1] [] ?_
      refine At.cd h (fun b53 h => ?_) (fun b53 h => ?_)
      · refine At.nR [2, 3, 5] [0, 1] ?_
        refine At.skip (norm ?_)
        refine At.seq ?_
        refine At.block ?_
        obtain ⟨y64, hy64, h⟩ := bs h
        obtain ⟨y65, hy65, h⟩ := bs h
        obtain ⟨y66, hy66, h⟩ := bs h
        refine At.sD 0 [2, 3, 5, 74] [0, 1] [eT T_api_Proc.enc_len 3 hy64, eT T_api_Proc.enc_len 8 hy65, c0 10 (C_retraceref22_Same y64 y65 y66 hy66)] ?_
        refine At.cd h (fun b67 h => ?_) (fun b67 h => ?_)
        · refine At.sR [4] [] [] ?_
          obtain ⟨r68, h, e69⟩ := mr h
          rw [f51 _ e69] at h
          obtain rfl := sq h
          exact At.ret (At.rR hR [])
        · refine At.nR [2, 3, 5] [0, 1] ?_
          refine At.skip (norm ?_)
          exact At.rK [2, 3, 5] [0, 1] [] fun _ _ i => ⟨_, li h, i⟩
      · refine At.nR [] [] ?_
        obtain ⟨r70, h, e71⟩ := mr h
        rw [f51 _ e71] at h
        refine At.exit (norm ?_)
        refine At.sR [4] [] [] ?_
        obtain rfl := sq h
        exact At.ret (At.rR hR [])
theorem C_retraceref32_Same (p0 : T_api_Trace) (p1 : T_api_Trace) (r : Bool) (h : F_retraceref32_Same p0 p1 = some r) : FnOK Tryz.prog 8 [.agg (T_api_Trace.pvs p0), .agg (T_api_Trace.pvs p1)] [] (bo r) [] [] := by
  refine fI Tryz.func8 rfl fun E gv R hR => ?_
  refine At.sR [2, 3] [0, 1] [] ?_
  refine At.seq ?_
  refine At.seqJ (S := Bool) (fun s => ⟨[(2, .ptr 0 0), (3, .ptr 1 0), (43, bo s)], [.blk 27 (T_api_Trace.pvs p0), .blk 27 (T_api_Trace.pvs p1)]⟩) (fun s => F_retraceref32_Same_J1 p0 p1 s = some r) ?_ ?_
  · rcases cs h with ⟨b86, h⟩ | ⟨b86, h⟩
    · exact At.rK [2, 3, 43] [0, 1] [bT 5 b86] fun _ _ i => ⟨true, h, i⟩
    · rcases cs h with ⟨b87, h⟩ | ⟨b87, h⟩
      · exact At.rK [2, 3, 43] [0, 1] [bT 5 b86, bT 12 b87] fun _ _ i => ⟨true, h, i⟩
      · rcases cs h with ⟨b88, h⟩ | ⟨b88, h⟩
        · exact At.rK [2, 3, 43] [0, 1] [bT 5 b86, bT 12 b87, bT 19 b88] fun _ _ i => ⟨true, h, i⟩
        · obtain ⟨y89, hy89, h⟩ := bs h
          rcases cs h with ⟨b90, h⟩ | ⟨b90, h⟩
          · exact At.rK [2, 3, 43] [0, 1] [bT 5 b86, bT 12 b87, bT 19 b88, c0 24 (C_retraceref27_Same p0.Events p1.Events y89 hy89), bT 27 b90] fun _ _ i => ⟨true, h, i⟩
          · exact At.rK [2, 3, 43] [0, 1] [bT 5 b86, bT 12 b87, bT 19 b88, c0 24 (C_retraceref27_Same p0.Events p1.Events y89 hy89), bT 27 b90] fun _ _ i => ⟨(((p0.Marks).length : Int) != ((p1.Marks).length : Int)), h, i⟩
  · intro x18 h
    refine At.cd h (fun b19 h => ?_) (fun b19 h => ?_)
    · refine At.sR [4] [] [] ?_
      obtain rfl := sq h
      exact At.ret (At.rR hR [])
    · refine At.nR [2, 3] [0, 1] ?_
      refine At.skip (norm ?_)
      refine At.seq ?_
      refine At.sR [2, 3, 5] [0, 1] [] ?_
      refine At.block ?_
      refine At.nK (st' := ⟨[(2, .ptr 0 0), (3, .ptr 1 0), (5, i64 0)], [.blk 27 (T_api_Trace.pvs p0), .blk 27 (T_api_Trace.pvs p1)]⟩) [2, 3, 5] [0, 1] ?_
      refine At.lp (fun s : (Int) => ⟨[(2, .ptr 0 0), (3, .ptr 1 0), (5, i64 s)], [.blk 27 (T_api_Trace.pvs p0), .blk 27 (T_api_Trace.pvs p1)]⟩) h ?_
      intro x53 oo54 h f55
      replace h : F_retraceref32_Same_L3 p0 p1 x53 = some oo54 := h
      refine At.seq ?_
      refine At.sR [2, 3, 5, 48] [0, 1] [] ?_
      refine At.cd h (fun b57 h => ?_) (fun b57 h => ?_)
      · refine At.nR [2, 3, 5] [0, 1] ?_
        refine At.skip (norm ?_)
        refine At.seq ?_
        refine At.block ?_
        obtain ⟨y72, hy72, h⟩ := bs h
        obtain ⟨y73, hy73, h⟩ := bs h
        refine At.sD 2 [2, 3, 5, 6, 7] [0, 1, 2, 3] [eT T_api_Mark.enc_len 3 hy72, eT T_api_Mark.enc_len 8 hy73] ?_
        refine At.seqJ (S := Bool) (fun s => ⟨[(2, .ptr 0 0), (3, .ptr 1 0), (5, i64 x53), (80, bo s)], [.blk 27 (T_api_Trace.pvs p0), .blk 27 (T_api_Trace.pvs p1)]⟩) (fun s => F_retraceref32_Same_J2 x53 s = some oo54) ?_ ?_
        · rcases cs h with ⟨b81, h⟩ | ⟨b81, h⟩
          · exact At.rK [2, 3, 5, 80] [0, 1] [bT 5 b81] fun _ _ i => ⟨true, h, i⟩
          · rcases cs h with ⟨b82, h⟩ | ⟨b82, h⟩
            · exact At.rK [2, 3, 5, 80] [0, 1] [bT 5 b81, bT 12 b82] fun _ _ i => ⟨true, h, i⟩
            · obtain ⟨y83, hy83, h⟩ := bs h
              exact At.rK [2, 3, 5, 80] [0, 1] [bT 5 b81, bT 12 b82, c0 17 (C_retraceref28_Same y72.State y73.State y83 hy83)] fun _ _ i => ⟨(!y83), h, i⟩
        · intro x77 h
          refine At.cd h (fun b78 h => ?_) (fun b78 h => ?_)
          · refine At.sR [4] [] [] ?_
            obtain ⟨r79, h, e80⟩ := mr h
            rw [f55 _ e80] at h
            obtain rfl := sq h
            exact At.ret (At.rR hR [])
          · refine At.nR [2, 3, 5] [0, 1] ?_
            refine At.skip (norm ?_)
            exact At.rK [2, 3, 5] [0, 1] [] fun _ _ i => ⟨_, li h, i⟩
      · refine At.nR [] [] ?_
        obtain ⟨r84, h, e85⟩ := mr h
        rw [f55 _ e85] at h
        refine At.exit (norm ?_)
        refine At.sR [4] [] [] ?_
        obtain rfl := sq h
        exact At.ret (At.rR hR [])
theorem C_retraceref01_Zag (p0 : Int) (r : Int) (h : F_retraceref01_Zag p0 = some r) : FnOK Tryz.prog 117 [u64 p0] [] (i64 r) [] [] := by
  refine fI Tryz.func117 rfl fun E gv R hR => ?_
  refine At.sR [0] [] [] ?_
  refine At.seq ?_
  refine At.sR [0, 5] [] [oT 1 (by decide : 2 ≠ (0:Int))] ?_
  refine At.cd h (fun b2 h => ?_) (fun b2 h => ?_)
  · refine At.sR [2] [] [oT 1 (by decide : 2 ≠ (0:Int))] ?_
    obtain rfl := sq h
    exact At.ret (At.rR hR [])
  · refine At.nR [0] [] ?_
    refine At.skip (norm ?_)
    refine At.sR [2] [] [oT 1 (by decide : 2 ≠ (0:Int))] ?_
    obtain rfl := sq h
    exact At.ret (At.rR hR [])
theorem C_retraceref03_Reader_Int (o0 : T_retraceref03_Reader) (r : Int × T_retraceref03_Reader) (h : F_retraceref03_Reader_Int o0 = some r) : FnOK Tryz.prog 102 [.ptr 0 0] [.blk 126 (T_retraceref03_Reader.pvs o0)] (i64 r.1) [.blk 126 (T_retraceref03_Reader.pvs r.2)] [1] := by
  refine fI Tryz.func102 rfl fun E gv R hR => ?_
  refine At.sR [0] [0, 1] [] ?_
  obtain ⟨y3, hy3, h⟩ := bs h
  obtain ⟨y4, hy4, h⟩ := bs h
  refine At.sR [2] [0, 1] [cT 1 1 [0] (C_retraceref03_Reader_Num o0 y3 hy3), c0 2 (C_retraceref01_Zag y3.1 y4 hy4)] ?_
  obtain rfl := sq h
  exact At.ret (At.rR hR [0])
theorem C_retraceref03_Reader_End (o0 : T_retraceref03_Reader) (r : Int) (h : F_retraceref03_Reader_End o0 = some r) : FnOK Tryz.prog 72 [.ptr 0 0] [.blk 126 (T_retraceref03_Reader.pvs o0)] (i64 r) [.blk 126 (T_retraceref03_Reader.pvs o0)] [1] := by
  refine fI Tryz.func72 rfl fun E gv R hR => ?_
  refine At.sR [0] [0, 1] [] ?_
  refine At.seq ?_
  refine At.seqJ (S := Bool) (fun s => ⟨[(0, .ptr 0 0), (15, bo s)], [.blk 126 (T_retraceref03_Reader.pvs o0), .ghost (gv 0) (.ptr 0 0)]⟩) (fun s => F_retraceref03_Reader_End_J1 o0 s = some r) ?_ ?_
  · rcases cs h with ⟨b8, h⟩ | ⟨b8, h⟩
    · exact At.rK [0, 15] [0, 1] [bT 5 b8] fun _ _ i => ⟨(decide (0 < (o0.S.size : Int))), h, i⟩
    · exact At.rK [0, 15] [0, 1] [bT 5 b8] fun _ _ i => ⟨false, h, i⟩
  · intro x6 h
    refine At.cd h (fun b7 h => ?_) (fun b7 h => ?_)
    · refine At.sR [2] [0, 1] [] ?_
      obtain rfl := sq h
      exact At.ret (At.rR hR [0])
    · refine At.nR [0] [0, 1] ?_
      refine At.skip (norm ?_)
      refine At.sR [2] [0, 1] [] ?_
      obtain rfl := sq h
      exact At.ret (At.rR hR [0])
theorem C_retraceref31_Check (p0 : (List T_api_Event)) (r : (List Int)) (h : F_retraceref31_Check p0 = some r) : FnOK Tryz.prog 103 [lv T_api_Event.enc p0] [] (.dagg (encL (eInt .i64) r)) [] [] := by
  refine fI Tryz.func103 rfl fun E gv R hR => ?_
  refine At.sR [0, 2] [0] [] ?_
  refine At.seq ?_
  refine At.sR [0, 2, 6] [0] [] ?_
  refine At.cd h (fun b4 h => ?_) (fun b4 h => ?_)
  · obtain ⟨g6, h⟩ := gs h
    refine At.sR [2] [0] [oN 1 (allc (lenN (he_int .i64) ([65536, 13] : List Int) g6.1) (allc (lenN (he_int .i64) (List.replicate 2 (0 : Int)) g6.2) all0))] ?_
    obtain ⟨g7, h⟩ := gs h
    obtain rfl := sq h
    exact At.ret (At.rQ hR [] (allc (lenN (he_int .i64) ([65536, 13] : List Int) g7) all0))
  · refine At.nR [0, 2] [0] ?_
    refine At.skip (norm ?_)
    refine At.seq ?_
    refine At.sR [0, 2, 3] [0] [] ?_
    refine At.block ?_
    refine At.nK (st' := ⟨[(0, lv T_api_Event.enc p0), (2, .ptr 0 0), (3, i64 0)], [.dblk 162 (encL (eInt .i64) (List.replicate 2 (0 : Int)))]⟩) [0, 2, 3] [0] ?_
    refine At.lp (fun s : (Int) => ⟨[(0, lv T_api_Event.enc p0), (2, .ptr 0 0), (3, i64 s)], [.dblk 162 (encL (eInt .i64) (List.replicate 2 (0 : Int)))]⟩) h ?_
    intro x57 oo58 h f59
    replace h : F_retraceref31_Check_L2 p0 x57 = some oo58 := h
    refine At.seq ?_
    refine At.sR [0, 2, 3, 11] [0] [] ?_
    refine At.cd h (fun b61 h => ?_) (fun b61 h => ?_)
    · refine At.nR [0, 2, 3] [0] ?_
      refine At.skip (norm ?_)
      refine At.seq ?_
      refine At.block ?_
      refine At.seqJ (S := Bool) (fun s => ⟨[(0, lv T_api_Event.enc p0), (2, .ptr 0 0), (3, i64 x57), (47, bo s)], [.dblk 162 (encL (eInt .i64) (List.replicate 2 (0 : Int)))]⟩) (fun s => F_retraceref31_Check_J1 x57 s = some oo58) ?_ ?_
      · obtain ⟨y97, hy97, h⟩ := bs h
        rcases cs h with ⟨b98, h⟩ | ⟨b98, h⟩
        · exact At.rK [0, 2, 3, 47] [0] [eT T_api_Event.enc_len 2 hy97, bT 6 b98] fun _ _ i => ⟨true, h, i⟩
        · obtain ⟨y99, hy99, h⟩ := bs h
          rcases cs h with ⟨b100, h⟩ | ⟨b100, h⟩
          · exact At.rK [0, 2, 3, 47] [0] [eT T_api_Event.enc_len 2 hy97, bT 6 b98, eT T_api_Event.enc_len 9 hy99, bT 14 b100] fun _ _ i => ⟨true, h, i⟩
          · obtain ⟨y101, hy101, h⟩ := bs h
            rcases cs h with ⟨b102, h⟩ | ⟨b102, h⟩
            · exact At.rK [0, 2, 3, 47] [0] [eT T_api_Event.enc_len 2 hy97, bT 6 b98, eT T_api_Event.enc_len 9 hy99, bT 14 b100, eT T_api_Event.enc_len 17 hy101, bT 22 b102] fun _ _ i => ⟨true, h, i⟩
            · rcases cs h with ⟨b103, h⟩ | ⟨b103, h⟩
              · obtain ⟨y104, hy104, h⟩ := bs h
                exact At.rK [0, 2, 3, 47] [0] [eT T_api_Event.enc_len 2 hy97, bT 6 b98, eT T_api_Event.enc_len 9 hy99, bT 14 b100, eT T_api_Event.enc_len 17 hy101, bT 22 b102, bT 25 b103, eT T_api_Event.enc_len 28 hy104] fun _ _ i => ⟨(y104.Kind != 1), h, i⟩
              · exact At.rK [0, 2, 3, 47] [0] [eT T_api_Event.enc_len 2 hy97, bT 6 b98, eT T_api_Event.enc_len 9 hy99, bT 14 b100, eT T_api_Event.enc_len 17 hy101, bT 22 b102, bT 25 b103] fun _ _ i => ⟨false, h, i⟩
      · intro x90 h
        refine At.cd h (fun b91 h => ?_) (fun b91 h => ?_)
        · obtain ⟨g93, h⟩ := gs h
          refine At.sR [2] [0] [oN 2 (allc (lenN (he_int .i64) ([x57, 3] : List Int) g93.1) (allc (lenN (he_int .i64) (List.replicate 2 (0 : Int)) g93.2) all0))] ?_
          obtain ⟨r94, h, e95⟩ := mr h
          rw [f59 _ e95] at h
          obtain ⟨g96, h⟩ := gs h
          obtain rfl := sq h
          exact At.ret (At.rQ hR [] (allc (lenN (he_int .i64) ([x57, 3] : List Int) g96) all0))
        · refine At.nR [0, 2, 3] [0] ?_
          refine At.skip (norm ?_)
          exact At.rK [0, 2, 3] [0] [] fun _ _ i => ⟨_, li h, i⟩
    · refine At.nR [2] [0] ?_
      obtain ⟨r105, h, e106⟩ := mr h
      rw [f59 _ e106] at h
      refine At.exit (norm ?_)
      obtain ⟨g108, h⟩ := gs h
      refine At.sR [2] [0] [oN 1 (allc (lenN (he_int .i64) ([0, 0] : List Int) g108.1) (allc (lenN (he_int .i64) (List.replicate 2 (0 : Int)) g108.2) all0))] ?_
      obtain ⟨g109, h⟩ := gs h
      obtain rfl := sq h
      exact At.ret (At.rQ hR [] (allc (lenN (he_int .i64) ([0, 0] : List Int) g109) all0))
theorem C_retraceref31_Get (p0 : ByteArray) (r : T_retraceref31_Got) (h : F_retraceref31_Get p0 = some r) : FnOK Tryz.prog 70 [sv p0] [] (.agg (T_retraceref31_Got.pvs r)) [] [] := by
  refine fI Tryz.func70 rfl fun E gv R hR => ?_
  refine At.sR [0, 2] [0] [] ?_
  refine At.sR [2, 3] [0, 1] [] ?_
  obtain ⟨y2, hy2, h⟩ := bs h
  refine At.sR [2, 3, 4] [0, 1] [cT 1 1 [1] (C_retraceref03_Reader_Upto 65536 (⟨p0, 0⟩ : T_retraceref03_Reader) y2 hy2)] ?_
  refine At.sR [2, 3, 4, 5] [0, 1] [] ?_
  refine At.seq ?_
  refine At.sR [2, 3, 4, 5, 6] [0, 1] [] ?_
  refine At.block ?_
  refine At.nK (st' := ⟨[(2, .ptr 0 0), (3, .ptr 1 0), (4, i64 y2.1), (5, .d (.list true 0 [])), (6, i64 0)], [.blk 128 [.d (.list true 0 []), i64 0], .blk 126 (T_retraceref03_Reader.pvs y2.2)]⟩) [2, 3, 4, 5, 6] [0, 1] ?_
  refine At.edNar [.ownS 5 68 2] [2, 3, 4, 5, 6] [0, 1, 2] (st' := ⟨[(2, .ptr 0 0), (3, .ptr 1 0), (4, i64 y2.1), (5, .row 2 ([] : List T_api_Event).length), (6, i64 0)], [.blk 128 [.d (.list true 0 []), i64 0], .blk 126 (T_retraceref03_Reader.pvs y2.2), .row 68 2 (encL T_api_Event.enc ([]))]⟩) (by kernel_rfl) ?_
  refine At.lp (fun s : (Int × ByteArray × Int × (List T_api_Event)) => ⟨[(2, .ptr 0 0), (3, .ptr 1 0), (4, i64 y2.1), (5, .row 2 (s.2.2.2).length), (6, i64 s.1)], [.blk 128 [.d (.list true 0 []), i64 0], .blk 126 [sv s.2.1, i64 s.2.2.1], .row 68 2 (encL T_api_Event.enc s.2.2.2)]⟩) h ?_
  rintro ⟨x27, x28, x29, x30⟩ oo31 h f32
  replace h : F_retraceref31_Get_L2 y2 x27 x28 x29 x30 = some oo31 := h
  refine At.seq ?_
  refine At.seqJ (S := Bool) (fun s => ⟨[(2, .ptr 0 0), (3, .ptr 1 0), (4, i64 y2.1), (5, .row 2 (x30).length), (6, i64 x27), (24, bo s)], [.blk 128 [.d (.list true 0 []), i64 0], .blk 126 [sv x28, i64 x29], .row 68 2 (encL T_api_Event.enc x30)]⟩) (fun s => F_retraceref31_Get_J1 x27 x28 x29 x30 s = some oo31) ?_ ?_
  · rcases cs h with ⟨b74, h⟩ | ⟨b74, h⟩
    · exact At.rK [2, 3, 4, 5, 6, 24] [0, 1, 2] [bT 3 b74] fun _ _ i => ⟨(x29 == 0), h, i⟩
    · exact At.rK [2, 3, 4, 5, 6, 24] [0, 1, 2] [bT 3 b74] fun _ _ i => ⟨false, h, i⟩
  · intro x38 h
    refine At.cd h (fun b39 h => ?_) (fun b39 h => ?_)
    · refine At.nR [2, 3, 4, 5, 6] [0, 1, 2] ?_
      refine At.skip (norm ?_)
      refine At.seq ?_
      refine At.block ?_
      obtain ⟨y45, hy45, h⟩ := bs h
      refine At.sR [2, 3, 4, 5, 6, 7] [0, 1, 2] [cT 1 1 [1] (C_retraceref03_Reader_Int (⟨x28, x29⟩ : T_retraceref03_Reader) y45 hy45)] ?_
      obtain ⟨y46, hy46, h⟩ := bs h
      obtain ⟨g47, h⟩ := gs h
      refine At.rG [2, 3, 4, 5, 6] [0, 1, 2] [cT 3 1 [1] (C_retraceref03_Reader_Int y45.2 y46 hy46), aT T_api_Event.enc_len 6 x30 ([(⟨y45.1, y46.1⟩ : T_api_Event)]) rfl g47] (norm ?_)
      exact At.rK [2, 3, 4, 5, 6] [0, 1, 2] [] fun _ _ i => ⟨_, li h, i⟩
    · refine At.nR [2, 3, 5] [0, 1, 2] ?_
      obtain ⟨r48, h, e49⟩ := mr h
      rw [f32 _ e49] at h
      refine At.exit (norm ?_)
      refine At.seq ?_
      obtain ⟨y54, hy54, h⟩ := bs h
      refine At.sR [2, 5, 8] [0, 2] [cT 1 1 [1] (C_retraceref03_Reader_End (⟨x28, x29⟩ : T_retraceref03_Reader) y54 hy54)] ?_
      refine At.sR [2, 5, 8, 39] [0, 1] [] ?_
      refine At.cd h (fun b55 h => ?_) (fun b55 h => ?_)
      · refine At.sR [2] [0] [] ?_
        refine At.eN [.loO 0] [2] [0] ?_
        obtain rfl := sq h
        exact At.ret (At.rR hR [])
      · refine At.nR [2, 5] [0, 1] ?_
        refine At.skip (norm ?_)
        refine At.seq ?_
        obtain ⟨y67, hy67, h⟩ := bs h
        obtain ⟨g68, h⟩ := gs h
        refine At.sR [2, 5, 9] [0, 2] [cX 1 0 [] [1] true (C_retraceref31_Check x30 y67 hy67), oN 3 (allc (lenN (he_int .i64) y67 g68.1) (allc (lenN (he_int .i64) (List.replicate 2 (0 : Int)) g68.2) all0))] ?_
        refine At.seq ?_
        obtain ⟨y70, hy70, h⟩ := bs h
        refine At.rK (st' := ⟨[(2, .ptr 0 0), (5, lv T_api_Event.enc x30), (9, .ptr 1 0), (46, bo (y70 != 0))], [.blk 128 [.d (.list true 0 []), i64 0], .dblk 162 (encL (eInt .i64) y67)]⟩) [2, 5, 9, 46] [0, 1] [oT 0 ((aAt_of (he_int .i64) (d := .int .i64 y70) hy70 rfl).1), vT 1 (.int .i64 y70) ((aAt_of (he_int .i64) (d := .int .i64 y70) hy70 rfl).2)] (norm ?_)
        refine At.cd h (fun b71 h => ?_) (fun b71 h => ?_)
        · obtain ⟨y73, hy73, h⟩ := bs h
          refine At.sR [2] [0] [oT 0 ((aAt_of (he_int .i64) (d := .int .i64 y73) hy73 rfl).1), vT 1 (.int .i64 y73) ((aAt_of (he_int .i64) (d := .int .i64 y73) hy73 rfl).2)] ?_
          refine At.eN [.loO 0] [2] [0] ?_
          obtain rfl := sq h
          exact At.ret (At.rR hR [])
        · refine At.nR [2, 5] [0] ?_
          refine At.skip (norm ?_)
          refine At.sR [2] [0] [] ?_
          obtain rfl := sq h
          exact At.ret (At.rR hR [])
theorem C_retraceref03_Reader_Ints (p1 : Int) (o0 : T_retraceref03_Reader) (r : (List Int) × T_retraceref03_Reader) (h : F_retraceref03_Reader_Ints p1 o0 = some r) : FnOK Tryz.prog 104 [.ptr 0 0, i64 p1] [.blk 126 (T_retraceref03_Reader.pvs o0)] (.row 1 (r.1).length) [.blk 126 (T_retraceref03_Reader.pvs r.2), .row 3 1 (encL (eInt .i64) r.1)] [1] := by
  refine fI Tryz.func104 rfl fun E gv R hR => ?_
  refine At.sR [0, 1] [0, 1] [] ?_
  obtain ⟨y2, hy2, h⟩ := bs h
  refine At.sR [0, 5] [0, 1] [cT 2 1 [0] (C_retraceref03_Reader_Upto p1 o0 y2 hy2)] ?_
  refine At.sR [0, 5, 6] [0, 1] [] ?_
  refine At.seq ?_
  refine At.sR [0, 5, 6, 7] [0, 1] [] ?_
  refine At.block ?_
  refine At.nK (st' := ⟨[(0, .ptr 0 0), (5, i64 y2.1), (6, .d (.list true 0 [])), (7, i64 0)], [.blk 126 (T_retraceref03_Reader.pvs y2.2), .ghost (gv 0) (.ptr 0 0)]⟩) [0, 5, 6, 7] [0, 1] ?_
  refine At.edNar [.ownS 6 3 1] [0, 5, 6, 7] [0, 1, 2] (st' := ⟨[(0, .ptr 0 0), (5, i64 y2.1), (6, .row 2 ([] : List Int).length), (7, i64 0)], [.blk 126 (T_retraceref03_Reader.pvs y2.2), .ghost (gv 0) (.ptr 0 0), .row 3 1 (encL (eInt .i64) ([]))]⟩) (by kernel_rfl) ?_
  refine At.lp (fun s : (Int × ByteArray × Int × (List Int)) => ⟨[(0, .ptr 0 0), (5, i64 y2.1), (6, .row 2 (s.2.2.2).length), (7, i64 s.1)], [.blk 126 [sv s.2.1, i64 s.2.2.1], .ghost (gv 0) (.ptr 0 0), .row 3 1 (encL (eInt .i64) s.2.2.2)]⟩) h ?_
  rintro ⟨x23, x24, x25, x26⟩ oo27 h f28
  replace h : F_retraceref03_Reader_Ints_L2 y2 x23 x24 x25 x26 = some oo27 := h
  refine At.seq ?_
  refine At.seqJ (S := Bool) (fun s => ⟨[(0, .ptr 0 0), (5, i64 y2.1), (6, .row 2 (x26).length), (7, i64 x23), (20, bo s)], [.blk 126 [sv x24, i64 x25], .ghost (gv 0) (.ptr 0 0), .row 3 1 (encL (eInt .i64) x26)]⟩) (fun s => F_retraceref03_Reader_Ints_J1 x23 x24 x25 x26 s = some oo27) ?_ ?_
  · rcases cs h with ⟨b44, h⟩ | ⟨b44, h⟩
    · exact At.rK [0, 5, 6, 7, 20] [0, 1, 2] [bT 3 b44] fun _ _ i => ⟨(x25 == 0), h, i⟩
    · exact At.rK [0, 5, 6, 7, 20] [0, 1, 2] [bT 3 b44] fun _ _ i => ⟨false, h, i⟩
  · intro x34 h
    refine At.cd h (fun b35 h => ?_) (fun b35 h => ?_)
    · refine At.nR [0, 5, 6, 7] [0, 1, 2] ?_
      refine At.skip (norm ?_)
      refine At.seq ?_
      refine At.block ?_
      obtain ⟨y38, hy38, h⟩ := bs h
      obtain ⟨g39, h⟩ := gs h
      refine At.rG [0, 5, 6, 7] [0, 1, 2] [cT 2 1 [0] (C_retraceref03_Reader_Int (⟨x24, x25⟩ : T_retraceref03_Reader) y38 hy38), aT (he_int .i64) 4 x26 ([y38.1]) rfl g39] (norm ?_)
      exact At.rK [0, 5, 6, 7] [0, 1, 2] [] fun _ _ i => ⟨_, li h, i⟩
    · refine At.nR [0, 6] [0, 1, 2] ?_
      obtain ⟨r40, h, e41⟩ := mr h
      rw [f28 _ e41] at h
      refine At.exit (norm ?_)
      refine At.seq ?_
      refine At.sR [6, 32] [0, 1, 2] [] ?_
      refine At.cd h (fun b43 h => ?_) (fun b43 h => ?_)
      · refine At.sR [4] [0, 1] [] ?_
        refine At.eN [.ownS 4 3 1] [4] [0, 1, 2] ?_
        obtain rfl := sq h
        exact At.ret (At.rR hR [0, 2])
      · refine At.nR [6] [0, 1, 2] ?_
        refine At.skip (norm ?_)
        refine At.sR [4] [0, 1, 2] [] ?_
        obtain rfl := sq h
        exact At.ret (At.rR hR [0, 2])
theorem C_retraceref30_Read (o0 : T_retraceref03_Reader) (r : T_api_State × T_retraceref03_Reader) (h : F_retraceref30_Read o0 = some r) : FnOK Tryz.prog 71 [.ptr 0 0] [.blk 126 (T_retraceref03_Reader.pvs o0)] (.agg (T_api_State.pvs r.1)) [.blk 126 (T_retraceref03_Reader.pvs r.2)] [1] := by
  refine fI Tryz.func71 rfl fun E gv R hR => ?_
  refine At.sR [0, 2] [0, 1, 2] [] ?_
  refine At.sR [0, 2, 3] [0, 1, 2, 3] [] ?_
  obtain ⟨y2, hy2, h⟩ := bs h
  refine At.sR [0, 2, 3] [0, 1, 2, 3] [cT 1 1 [0] (C_retraceref03_Reader_Int o0 y2 hy2)] ?_
  obtain ⟨y4, hy4, h⟩ := bs h
  refine At.sR [0, 2, 3] [0, 1, 2, 3] [cT 1 1 [0] (C_retraceref03_Reader_Int y2.2 y4 hy4)] ?_
  obtain ⟨y6, hy6, h⟩ := bs h
  refine At.sR [0, 2, 3] [0, 1, 2, 3] [cT 1 1 [0] (C_retraceref03_Reader_Int y4.2 y6 hy6)] ?_
  refine At.seq ?_
  obtain ⟨y8, hy8, h⟩ := bs h
  refine At.rK (st' := ⟨[(0, .ptr 0 0), (2, .ptr 2 0), (3, .ptr 3 0)], [.blk 126 (T_retraceref03_Reader.pvs y8.2), .ghost (gv 0) (.ptr 0 0), .blk 58 [i64 0, i64 0, i64 0, i64 0, i64 0, .d (.list true 0 []), .d (.list true 0 [])], .blk 58 [i64 y2.1, i64 y4.1, i64 y6.1, i64 y8.1, i64 0, .d (.list true 0 []), .d (.list true 0 [])]]⟩) [0, 2, 3] [0, 1, 2, 3] [cT 1 1 [0] (C_retraceref03_Reader_Int y6.2 y8 hy8)] (norm ?_)
  obtain ⟨y10, hy10, h⟩ := bs h
  refine At.sR [0, 2, 3] [0, 1, 2, 3] [cT 1 1 [0] (C_retraceref03_Reader_Int y8.2 y10 hy10)] ?_
  obtain ⟨y12, hy12, h⟩ := bs h
  refine At.sR [0, 2, 3, 4] [0, 1, 2, 3] [cT 1 1 [0] (C_retraceref03_Reader_Upto 4096 y10.2 y12 hy12)] ?_
  refine At.seq ?_
  refine At.sR [0, 2, 3, 4, 5] [0, 1, 2, 3] [] ?_
  refine At.block ?_
  refine At.nK (st' := ⟨[(0, .ptr 0 0), (2, .ptr 2 0), (3, .ptr 3 0), (4, i64 y12.1), (5, i64 0)], [.blk 126 (T_retraceref03_Reader.pvs y12.2), .ghost (gv 0) (.ptr 0 0), .blk 58 [i64 0, i64 0, i64 0, i64 0, i64 0, .d (.list true 0 []), .d (.list true 0 [])], .blk 58 [i64 y2.1, i64 y4.1, i64 y6.1, i64 y8.1, i64 y10.1, .d (.list true 0 []), .d (.list true 0 [])]]⟩) [0, 2, 3, 4, 5] [0, 1, 2, 3] ?_
  refine At.edNar [.ownO 3 5 90 11] [0, 2, 3, 4, 5] [0, 1, 2, 3, 4] (st' := ⟨[(0, .ptr 0 0), (2, .ptr 2 0), (3, .ptr 3 0), (4, i64 y12.1), (5, i64 0)], [.blk 126 (T_retraceref03_Reader.pvs y12.2), .ghost (gv 0) (.ptr 0 0), .blk 58 [i64 0, i64 0, i64 0, i64 0, i64 0, .d (.list true 0 []), .d (.list true 0 [])], .blk 58 [i64 y2.1, i64 y4.1, i64 y6.1, i64 y8.1, i64 y10.1, .row 4 ([] : List T_api_Proc).length, .d (.list true 0 [])], .row 90 11 (encL T_api_Proc.enc ([]))]⟩) (by kernel_rfl) ?_
  refine At.lp (fun s : (Int × ByteArray × Int × (List T_api_Proc)) => ⟨[(0, .ptr 0 0), (2, .ptr 2 0), (3, .ptr 3 0), (4, i64 y12.1), (5, i64 s.1)], [.blk 126 [sv s.2.1, i64 s.2.2.1], .ghost (gv 0) (.ptr 0 0), .blk 58 [i64 0, i64 0, i64 0, i64 0, i64 0, .d (.list true 0 []), .d (.list true 0 [])], .blk 58 [i64 y2.1, i64 y4.1, i64 y6.1, i64 y8.1, i64 y10.1, .row 4 (s.2.2.2).length, .d (.list true 0 [])], .row 90 11 (encL T_api_Proc.enc s.2.2.2)]⟩) h ?_
  rintro ⟨x227, x228, x229, x230⟩ oo231 h f232
  replace h : F_retraceref30_Read_L4 y2 y4 y6 y8 y10 y12 x227 x228 x229 x230 = some oo231 := h
  refine At.seq ?_
  refine At.seqJ (S := Bool) (fun s => ⟨[(0, .ptr 0 0), (2, .ptr 2 0), (3, .ptr 3 0), (4, i64 y12.1), (5, i64 x227), (36, bo s)], [.blk 126 [sv x228, i64 x229], .ghost (gv 0) (.ptr 0 0), .blk 58 [i64 0, i64 0, i64 0, i64 0, i64 0, .d (.list true 0 []), .d (.list true 0 [])], .blk 58 [i64 y2.1, i64 y4.1, i64 y6.1, i64 y8.1, i64 y10.1, .row 4 (x230).length, .d (.list true 0 [])], .row 90 11 (encL T_api_Proc.enc x230)]⟩) (fun s => F_retraceref30_Read_J1 y2 y4 y6 y8 y10 x227 x228 x229 x230 s = some oo231) ?_ ?_
  · rcases cs h with ⟨b444, h⟩ | ⟨b444, h⟩
    · exact At.rK [0, 2, 3, 4, 5, 36] [0, 1, 2, 3, 4] [bT 3 b444] fun _ _ i => ⟨(x229 == 0), h, i⟩
    · exact At.rK [0, 2, 3, 4, 5, 36] [0, 1, 2, 3, 4] [bT 3 b444] fun _ _ i => ⟨false, h, i⟩
  · intro x238 h
    refine At.cd h (fun b239 h => ?_) (fun b239 h => ?_)
    · refine At.nR [0, 2, 3, 4, 5] [0, 1, 2, 3, 4] ?_
      refine At.skip (norm ?_)
      refine At.seq ?_
      refine At.block ?_
      refine At.sR [0, 2, 3, 4, 5, 6] [0, 1, 2, 3, 4, 5] [] ?_
      obtain ⟨y340, hy340, h⟩ := bs h
      refine At.sR [0, 2, 3, 4, 5, 6] [0, 1, 2, 3, 4, 5] [cT 1 1 [0] (C_retraceref03_Reader_Int (⟨x228, x229⟩ : T_retraceref03_Reader) y340 hy340)] ?_
      obtain ⟨y342, hy342, h⟩ := bs h
      refine At.sR [0, 2, 3, 4, 5, 6] [0, 1, 2, 3, 4, 5] [cT 1 1 [0] (C_retraceref03_Reader_Int y340.2 y342 hy342)] ?_
      obtain ⟨y344, hy344, h⟩ := bs h
      refine At.sR [0, 2, 3, 4, 5, 6] [0, 1, 2, 3, 4, 5, 6] [cT 1 1 [0, 6] (C_retraceref03_Reader_Ints 4096 y342.2 y344 hy344)] ?_
      refine At.seq ?_
      obtain ⟨y346, hy346, h⟩ := bs h
      refine At.rK (st' := ⟨[(0, .ptr 0 0), (2, .ptr 2 0), (3, .ptr 3 0), (4, i64 y12.1), (5, i64 x227), (6, .ptr 5 0)], [.blk 126 (T_retraceref03_Reader.pvs y346.2), .ghost (gv 0) (.ptr 0 0), .blk 58 [i64 0, i64 0, i64 0, i64 0, i64 0, .d (.list true 0 []), .d (.list true 0 [])], .blk 58 [i64 y2.1, i64 y4.1, i64 y6.1, i64 y8.1, i64 y10.1, .row 4 (x230).length, .d (.list true 0 [])], .row 90 11 (encL T_api_Proc.enc x230), .blk 90 [i64 y340.1, i64 y342.1, .row 6 (y344.1).length, i64 y346.1, i64 0, i64 0, i64 0, i64 0, i64 0, i64 0, .d (.list true 0 [])], .row 3 1 (encL (eInt .i64) y344.1)]⟩) [0, 2, 3, 4, 5, 6] [0, 1, 2, 3, 4, 5, 6] [cT 1 1 [0] (C_retraceref03_Reader_Int y344.2 y346 hy346)] (norm ?_)
      obtain ⟨y348, hy348, h⟩ := bs h
      refine At.sR [0, 2, 3, 4, 5, 6] [0, 1, 2, 3, 4, 5, 6] [cT 1 1 [0] (C_retraceref03_Reader_Int y346.2 y348 hy348)] ?_
      obtain ⟨y350, hy350, h⟩ := bs h
      refine At.sR [0, 2, 3, 4, 5, 6] [0, 1, 2, 3, 4, 5, 6] [cT 1 1 [0] (C_retraceref03_Reader_Int y348.2 y350 hy350)] ?_
      obtain ⟨y352, hy352, h⟩ := bs h
      refine At.sR [0, 2, 3, 4, 5, 6] [0, 1, 2, 3, 4, 5, 6] [cT 1 1 [0] (C_retraceref03_Reader_Int y350.2 y352 hy352)] ?_
      obtain ⟨y354, hy354, h⟩ := bs h
      refine At.sR [0, 2, 3, 4, 5, 6] [0, 1, 2, 3, 4, 5, 6] [cT 1 1 [0] (C_retraceref03_Reader_Int y352.2 y354 hy354)] ?_
      obtain ⟨y356, hy356, h⟩ := bs h
      refine At.sR [0, 2, 3, 4, 5, 6] [0, 1, 2, 3, 4, 5, 6] [cT 1 1 [0] (C_retraceref03_Reader_Int y354.2 y356 hy356)] ?_
      refine At.seq ?_
      obtain ⟨y358, hy358, h⟩ := bs h
      refine At.rK (st' := ⟨[(0, .ptr 0 0), (2, .ptr 2 0), (3, .ptr 3 0), (4, i64 y12.1), (5, i64 x227), (6, .ptr 5 0)], [.blk 126 (T_retraceref03_Reader.pvs y358.2), .ghost (gv 0) (.ptr 0 0), .blk 58 [i64 0, i64 0, i64 0, i64 0, i64 0, .d (.list true 0 []), .d (.list true 0 [])], .blk 58 [i64 y2.1, i64 y4.1, i64 y6.1, i64 y8.1, i64 y10.1, .row 4 (x230).length, .d (.list true 0 [])], .row 90 11 (encL T_api_Proc.enc x230), .blk 90 [i64 y340.1, i64 y342.1, .row 6 (y344.1).length, i64 y346.1, i64 y348.1, i64 y350.1, i64 y352.1, i64 y354.1, i64 y356.1, i64 y358.1, .d (.list true 0 [])], .row 3 1 (encL (eInt .i64) y344.1)]⟩) [0, 2, 3, 4, 5, 6] [0, 1, 2, 3, 4, 5, 6] [cT 1 1 [0] (C_retraceref03_Reader_Int y356.2 y358 hy358)] (norm ?_)
      obtain ⟨y360, hy360, h⟩ := bs h
      refine At.sR [0, 2, 3, 4, 5, 6, 7] [0, 1, 2, 3, 4, 5, 6] [cT 1 1 [0] (C_retraceref03_Reader_Upto 4096 y358.2 y360 hy360)] ?_
      refine At.seq ?_
      refine At.sR [0, 2, 3, 4, 5, 6, 7, 8] [0, 1, 2, 3, 4, 5, 6] [] ?_
      refine At.block ?_
      refine At.nK (st' := ⟨[(0, .ptr 0 0), (2, .ptr 2 0), (3, .ptr 3 0), (4, i64 y12.1), (5, i64 x227), (6, .ptr 5 0), (7, i64 y360.1), (8, i64 0)], [.blk 126 (T_retraceref03_Reader.pvs y360.2), .ghost (gv 0) (.ptr 0 0), .blk 58 [i64 0, i64 0, i64 0, i64 0, i64 0, .d (.list true 0 []), .d (.list true 0 [])], .blk 58 [i64 y2.1, i64 y4.1, i64 y6.1, i64 y8.1, i64 y10.1, .row 4 (x230).length, .d (.list true 0 [])], .row 90 11 (encL T_api_Proc.enc x230), .blk 90 [i64 y340.1, i64 y342.1, .row 6 (y344.1).length, i64 y346.1, i64 y348.1, i64 y350.1, i64 y352.1, i64 y354.1, i64 y356.1, i64 y358.1, .d (.list true 0 [])], .row 3 1 (encL (eInt .i64) y344.1)]⟩) [0, 2, 3, 4, 5, 6, 7, 8] [0, 1, 2, 3, 4, 5, 6] ?_
      refine At.edNar [.ownO 5 10 149 5] [0, 2, 3, 4, 5, 6, 7, 8] [0, 1, 2, 3, 4, 5, 6, 7] (st' := ⟨[(0, .ptr 0 0), (2, .ptr 2 0), (3, .ptr 3 0), (4, i64 y12.1), (5, i64 x227), (6, .ptr 5 0), (7, i64 y360.1), (8, i64 0)], [.blk 126 (T_retraceref03_Reader.pvs y360.2), .ghost (gv 0) (.ptr 0 0), .blk 58 [i64 0, i64 0, i64 0, i64 0, i64 0, .d (.list true 0 []), .d (.list true 0 [])], .blk 58 [i64 y2.1, i64 y4.1, i64 y6.1, i64 y8.1, i64 y10.1, .row 4 (x230).length, .d (.list true 0 [])], .row 90 11 (encL T_api_Proc.enc x230), .blk 90 [i64 y340.1, i64 y342.1, .row 6 (y344.1).length, i64 y346.1, i64 y348.1, i64 y350.1, i64 y352.1, i64 y354.1, i64 y356.1, i64 y358.1, .row 7 ([] : List T_api_Alt).length], .row 3 1 (encL (eInt .i64) y344.1), .row 149 5 (encL T_api_Alt.enc ([]))]⟩) (by kernel_rfl) ?_
      refine At.lp (fun s : (Int × ByteArray × Int × (List T_api_Alt)) => ⟨[(0, .ptr 0 0), (2, .ptr 2 0), (3, .ptr 3 0), (4, i64 y12.1), (5, i64 x227), (6, .ptr 5 0), (7, i64 y360.1), (8, i64 s.1)], [.blk 126 [sv s.2.1, i64 s.2.2.1], .ghost (gv 0) (.ptr 0 0), .blk 58 [i64 0, i64 0, i64 0, i64 0, i64 0, .d (.list true 0 []), .d (.list true 0 [])], .blk 58 [i64 y2.1, i64 y4.1, i64 y6.1, i64 y8.1, i64 y10.1, .row 4 (x230).length, .d (.list true 0 [])], .row 90 11 (encL T_api_Proc.enc x230), .blk 90 [i64 y340.1, i64 y342.1, .row 6 (y344.1).length, i64 y346.1, i64 y348.1, i64 y350.1, i64 y352.1, i64 y354.1, i64 y356.1, i64 y358.1, .row 7 (s.2.2.2).length], .row 3 1 (encL (eInt .i64) y344.1), .row 149 5 (encL T_api_Alt.enc s.2.2.2)]⟩) h ?_
      rintro ⟨x399, x400, x401, x402⟩ oo403 h f404
      replace h : F_retraceref30_Read_L3 x227 x230 y340 y342 y344 y346 y348 y350 y352 y354 y356 y358 y360 x399 x400 x401 x402 = some oo403 := h
      refine At.seq ?_
      refine At.seqJ (S := Bool) (fun s => ⟨[(0, .ptr 0 0), (2, .ptr 2 0), (3, .ptr 3 0), (4, i64 y12.1), (5, i64 x227), (6, .ptr 5 0), (7, i64 y360.1), (8, i64 x399), (80, bo s)], [.blk 126 [sv x400, i64 x401], .ghost (gv 0) (.ptr 0 0), .blk 58 [i64 0, i64 0, i64 0, i64 0, i64 0, .d (.list true 0 []), .d (.list true 0 [])], .blk 58 [i64 y2.1, i64 y4.1, i64 y6.1, i64 y8.1, i64 y10.1, .row 4 (x230).length, .d (.list true 0 [])], .row 90 11 (encL T_api_Proc.enc x230), .blk 90 [i64 y340.1, i64 y342.1, .row 6 (y344.1).length, i64 y346.1, i64 y348.1, i64 y350.1, i64 y352.1, i64 y354.1, i64 y356.1, i64 y358.1, .row 7 (x402).length], .row 3 1 (encL (eInt .i64) y344.1), .row 149 5 (encL T_api_Alt.enc x402)]⟩) (fun s => F_retraceref30_Read_J2 x227 x230 y340 y342 y344 y346 y348 y350 y352 y354 y356 y358 x399 x400 x401 x402 s = some oo403) ?_ ?_
      · rcases cs h with ⟨b437, h⟩ | ⟨b437, h⟩
        · exact At.rK [0, 2, 3, 4, 5, 6, 7, 8, 80] [0, 1, 2, 3, 4, 5, 6, 7] [bT 3 b437] fun _ _ i => ⟨(x401 == 0), h, i⟩
        · exact At.rK [0, 2, 3, 4, 5, 6, 7, 8, 80] [0, 1, 2, 3, 4, 5, 6, 7] [bT 3 b437] fun _ _ i => ⟨false, h, i⟩
      · intro x410 h
        refine At.cd h (fun b411 h => ?_) (fun b411 h => ?_)
        · refine At.nR [0, 2, 3, 4, 5, 6, 7, 8] [0, 1, 2, 3, 4, 5, 6, 7] ?_
          refine At.skip (norm ?_)
          refine At.seq ?_
          refine At.block ?_
          refine At.sR [0, 2, 3, 4, 5, 6, 7, 8, 9] [0, 1, 2, 3, 4, 5, 6, 7, 8] [] ?_
          obtain ⟨y424, hy424, h⟩ := bs h
          refine At.sR [0, 2, 3, 4, 5, 6, 7, 8, 9] [0, 1, 2, 3, 4, 5, 6, 7, 8] [cT 1 1 [0] (C_retraceref03_Reader_Int (⟨x400, x401⟩ : T_retraceref03_Reader) y424 hy424)] ?_
          obtain ⟨y426, hy426, h⟩ := bs h
          refine At.sR [0, 2, 3, 4, 5, 6, 7, 8, 9] [0, 1, 2, 3, 4, 5, 6, 7, 8] [cT 1 1 [0] (C_retraceref03_Reader_Int y424.2 y426 hy426)] ?_
          obtain ⟨y428, hy428, h⟩ := bs h
          refine At.sR [0, 2, 3, 4, 5, 6, 7, 8, 9] [0, 1, 2, 3, 4, 5, 6, 7, 8] [cT 1 1 [0] (C_retraceref03_Reader_Int y426.2 y428 hy428)] ?_
          refine At.seq ?_
          obtain ⟨y430, hy430, h⟩ := bs h
          refine At.rK (st' := ⟨[(0, .ptr 0 0), (2, .ptr 2 0), (3, .ptr 3 0), (4, i64 y12.1), (5, i64 x227), (6, .ptr 5 0), (7, i64 y360.1), (8, i64 x399), (9, .ptr 8 0)], [.blk 126 (T_retraceref03_Reader.pvs y430.2), .ghost (gv 0) (.ptr 0 0), .blk 58 [i64 0, i64 0, i64 0, i64 0, i64 0, .d (.list true 0 []), .d (.list true 0 [])], .blk 58 [i64 y2.1, i64 y4.1, i64 y6.1, i64 y8.1, i64 y10.1, .row 4 (x230).length, .d (.list true 0 [])], .row 90 11 (encL T_api_Proc.enc x230), .blk 90 [i64 y340.1, i64 y342.1, .row 6 (y344.1).length, i64 y346.1, i64 y348.1, i64 y350.1, i64 y352.1, i64 y354.1, i64 y356.1, i64 y358.1, .row 7 (x402).length], .row 3 1 (encL (eInt .i64) y344.1), .row 149 5 (encL T_api_Alt.enc x402), .blk 149 [i64 y424.1, i64 y426.1, i64 y428.1, i64 y430.1, i64 0]]⟩) [0, 2, 3, 4, 5, 6, 7, 8, 9] [0, 1, 2, 3, 4, 5, 6, 7, 8] [cT 1 1 [0] (C_retraceref03_Reader_Int y428.2 y430 hy430)] (norm ?_)
          obtain ⟨y432, hy432, h⟩ := bs h
          refine At.sR [0, 2, 3, 4, 5, 6, 7, 8, 9] [0, 1, 2, 3, 4, 5, 6, 7, 8] [cT 1 1 [0] (C_retraceref03_Reader_Int y430.2 y432 hy432)] ?_
          obtain ⟨g433, h⟩ := gs h
          refine At.rG [0, 2, 3, 4, 5, 6, 7, 8] [0, 1, 2, 3, 4, 5, 6, 7] [aT T_api_Alt.enc_len 4 x402 ([(⟨y424.1, y426.1, y428.1, y430.1, y432.1⟩ : T_api_Alt)]) rfl g433] (norm ?_)
          exact At.rK [0, 2, 3, 4, 5, 6, 7, 8] [0, 1, 2, 3, 4, 5, 6, 7] [] fun _ _ i => ⟨_, li h, i⟩
        · refine At.nR [0, 2, 3, 4, 5, 6] [0, 1, 2, 3, 4, 5, 6, 7] ?_
          obtain ⟨r434, h, e435⟩ := mr h
          rw [f404 _ e435] at h
          refine At.exit (norm ?_)
          obtain ⟨g436, h⟩ := gs h
          refine At.rG [0, 2, 3, 4, 5] [0, 1, 2, 3, 4] [tT 3 ({ settle := [6, 7] }) all0, aT T_api_Proc.enc_len 4 x230 ([(⟨y340.1, y342.1, y344.1, y346.1, y348.1, y350.1, y352.1, y354.1, y356.1, y358.1, x402⟩ : T_api_Proc)]) rfl g436] (norm ?_)
          exact At.rK [0, 2, 3, 4, 5] [0, 1, 2, 3, 4] [] fun _ _ i => ⟨_, li h, i⟩
    · refine At.nR [0, 2, 3] [0, 1, 2, 3, 4] ?_
      obtain ⟨r438, h, e439⟩ := mr h
      rw [f232 _ e439] at h
      refine At.exit (norm ?_)
      obtain ⟨y441, hy441, h⟩ := bs h
      refine At.sR [0, 2, 3] [0, 1, 2, 3, 4, 5] [cT 1 1 [0, 5] (C_retraceref03_Reader_Ints 1048576 (⟨x228, x229⟩ : T_retraceref03_Reader) y441 hy441)] ?_
      refine At.seq ?_
      refine At.sR [2, 3, 117] [0, 1, 2, 3, 4, 5] [] ?_
      refine At.cd h (fun b443 h => ?_) (fun b443 h => ?_)
      · refine At.sR [2] [0, 1, 2] [] ?_
        refine At.eN [.loO 2] [2] [0, 1, 2] ?_
        obtain rfl := sq h
        exact At.ret (At.rR hR [0])
      · refine At.nR [2, 3] [0, 1, 2, 3, 4, 5] ?_
        refine At.skip (norm ?_)
        refine At.sR [2] [0, 1, 2, 4, 5] [] ?_
        refine At.eN [.settle 3, .settle 4] [2] [0, 1, 2] ?_
        obtain rfl := sq h
        exact At.ret (At.rR hR [0])
theorem C_retraceref31_Right (p0 : (List T_api_Event)) (r : Bool) (h : F_retraceref31_Right p0 = some r) : FnOK Tryz.prog 105 [lv T_api_Event.enc p0] [] (bo r) [] [] := by
  refine fI Tryz.func105 rfl fun E gv R hR => ?_
  refine At.sR [0] [] [] ?_
  obtain ⟨y3, hy3, h⟩ := bs h
  obtain ⟨g4, h⟩ := gs h
  refine At.sR [2] [] [c0 1 (C_retraceref31_Check p0 y3 hy3), tT 3 ({ orc := .val (.bool (y3 == ([0, 0] : List Int))) }) (allc (eqTwo_ok .i64 g4) (allc (twoOK .i64 g4) all0))] ?_
  obtain rfl := sq h
  exact At.ret (At.rR hR [])
theorem C_retraceref31_Begins (p0 : (List T_api_Event)) (r : (List Int)) (h : F_retraceref31_Begins p0 = some r) : FnOK Tryz.prog 118 [lv T_api_Event.enc p0] [] (.row 0 (r).length) [.row 3 1 (encL (eInt .i64) r)] [] := by
  refine fI Tryz.func118 rfl fun E gv R hR => ?_
  refine At.sR [0] [] [] ?_
  refine At.sR [0, 3] [] [] ?_
  refine At.seq ?_
  refine At.sR [0, 3, 4] [] [] ?_
  refine At.block ?_
  refine At.nK (st' := ⟨[(0, lv T_api_Event.enc p0), (3, .d (.list true 0 [])), (4, i64 0)], []⟩) [0, 3, 4] [] ?_
  refine At.edNar [.ownS 3 3 1] [0, 3, 4] [0] (st' := ⟨[(0, lv T_api_Event.enc p0), (3, .row 0 ([] : List Int).length), (4, i64 0)], [.row 3 1 (encL (eInt .i64) ([]))]⟩) (by kernel_rfl) ?_
  refine At.lp (fun s : (Int × (List Int)) => ⟨[(0, lv T_api_Event.enc p0), (3, .row 0 (s.2).length), (4, i64 s.1)], [.row 3 1 (encL (eInt .i64) s.2)]⟩) h ?_
  rintro ⟨x18, x19⟩ oo20 h f21
  replace h : F_retraceref31_Begins_L2 p0 x18 x19 = some oo20 := h
  refine At.seq ?_
  refine At.sR [0, 3, 4, 8] [0] [] ?_
  refine At.cd h (fun b23 h => ?_) (fun b23 h => ?_)
  · refine At.nR [0, 3, 4] [0] ?_
    refine At.skip (norm ?_)
    refine At.seqJ (S := (List Int)) (fun s => ⟨[(0, lv T_api_Event.enc p0), (3, .row 0 (s).length), (4, i64 x18)], [.row 3 1 (encL (eInt .i64) s)]⟩) (fun s => F_retraceref31_Begins_J1 x18 s = some oo20) ?_ ?_
    · refine At.block ?_
      obtain ⟨y30, hy30, h⟩ := bs h
      refine At.sR [0, 3, 4, 16] [0] [eT T_api_Event.enc_len 2 hy30] ?_
      refine At.cd h (fun b31 h => ?_) (fun b31 h => ?_)
      · obtain ⟨g32, h⟩ := gs h
        exact At.rK [0, 3, 4] [0] [aT (he_int .i64) 3 x19 ([x18]) rfl g32] fun _ _ i => ⟨(x19 ++ [x18]), h, i⟩
      · refine At.nR [0, 3, 4] [0] ?_
        refine At.skip (fun _ _ i => ⟨x19, h, i.en [] [0, 3, 4] [0]⟩)
    · intro x28 h
      exact At.rK [0, 3, 4] [0] [] fun _ _ i => ⟨_, li h, i⟩
  · refine At.nR [3] [0] ?_
    obtain ⟨r33, h, e34⟩ := mr h
    rw [f21 _ e34] at h
    refine At.exit (norm ?_)
    refine At.sR [2] [0] [] ?_
    obtain rfl := sq h
    exact At.ret (At.rR hR [0])
theorem C_retraceref31_Begin (p0 : (List T_api_Event)) (p1 : Int) (r : Int) (h : F_retraceref31_Begin p0 p1 = some r) : FnOK Tryz.prog 106 [lv T_api_Event.enc p0, i64 p1] [] (i64 r) [] [] := by
  refine fI Tryz.func106 rfl fun E gv R hR => ?_
  refine At.sR [0, 1] [] [] ?_
  obtain ⟨y3, hy3, h⟩ := bs h
  obtain ⟨g4, h⟩ := gs h
  refine At.sR [1, 5] [0] [cT 1 0 [0] (C_retraceref31_Begins p0 y3 hy3), aT (he_int .i64) 5 y3 ([((p0).length : Int)]) rfl g4] ?_
  refine At.seq ?_
  refine At.seqJ (S := Bool) (fun s => ⟨[(1, i64 p1), (5, .row 0 ((y3 ++ [((p0).length : Int)])).length), (19, bo s)], [.row 3 1 (encL (eInt .i64) (y3 ++ [((p0).length : Int)]))]⟩) (fun s => F_retraceref31_Begin_J1 p0 p1 y3 s = some r) ?_ ?_
  · rcases cs h with ⟨b14, h⟩ | ⟨b14, h⟩
    · exact At.rK [1, 5, 19] [0] [bT 2 b14] fun _ _ i => ⟨true, h, i⟩
    · exact At.rK [1, 5, 19] [0] [bT 2 b14] fun _ _ i => ⟨(decide ((((y3 ++ [((p0).length : Int)])).length : Int) ≤ p1)), h, i⟩
  · intro x10 h
    refine At.cd h (fun b11 h => ?_) (fun b11 h => ?_)
    · refine At.sR [4] [] [] ?_
      obtain rfl := sq h
      exact At.ret (At.rR hR [])
    · refine At.nR [1, 5] [0] ?_
      refine At.skip (norm ?_)
      obtain ⟨y13, hy13, h⟩ := bs h
      refine At.sR [4] [] [oT 2 ((rAt_of (he_int .i64) (d := .int .i64 y13) hy13 rfl).1), vT 3 (.int .i64 y13) ((rAt_of (he_int .i64) (d := .int .i64 y13) hy13 rfl).2)] ?_
      obtain rfl := sq h
      exact At.ret (At.rR hR [])
theorem C_retraceref32_Is (p0 : T_api_Trace) (r : Bool) (h : F_retraceref32_Is p0 = some r) : FnOK Tryz.prog 73 [.agg (T_api_Trace.pvs p0)] [] (bo r) [] [] := by
  refine fI Tryz.func73 rfl fun E gv R hR => ?_
  refine At.sR [1] [0] [] ?_
  refine At.seq ?_
  refine At.seqJ (S := Bool) (fun s => ⟨[(1, .ptr 0 0), (28, bo s)], [.blk 27 (T_api_Trace.pvs p0)]⟩) (fun s => F_retraceref32_Is_J1 p0 s = some r) ?_ ?_
  · obtain ⟨y152, hy152, h⟩ := bs h
    rcases cs h with ⟨b153, h⟩ | ⟨b153, h⟩
    · exact At.rK [1, 28] [0] [c0 2 (C_retraceref31_Right p0.Events y152 hy152), bT 4 b153] fun _ _ i => ⟨true, h, i⟩
    · rcases cs h with ⟨b154, h⟩ | ⟨b154, h⟩
      · exact At.rK [1, 28] [0] [c0 2 (C_retraceref31_Right p0.Events y152 hy152), bT 4 b153, bT 9 b154] fun _ _ i => ⟨true, h, i⟩
      · rcases cs h with ⟨b155, h⟩ | ⟨b155, h⟩
        · exact At.rK [1, 28] [0] [c0 2 (C_retraceref31_Right p0.Events y152 hy152), bT 4 b153, bT 9 b154, bT 14 b155] fun _ _ i => ⟨true, h, i⟩
        · rcases cs h with ⟨b156, h⟩ | ⟨b156, h⟩
          · exact At.rK [1, 28] [0] [c0 2 (C_retraceref31_Right p0.Events y152 hy152), bT 4 b153, bT 9 b154, bT 14 b155, bT 19 b156] fun _ _ i => ⟨true, h, i⟩
          · exact At.rK [1, 28] [0] [c0 2 (C_retraceref31_Right p0.Events y152 hy152), bT 4 b153, bT 9 b154, bT 14 b155, bT 19 b156] fun _ _ i => ⟨(decide (1048576 < p0.Every)), h, i⟩
  · intro x18 h
    refine At.cd h (fun b19 h => ?_) (fun b19 h => ?_)
    · refine At.sR [2] [] [] ?_
      obtain rfl := sq h
      exact At.ret (At.rR hR [])
    · refine At.nR [1] [0] ?_
      refine At.skip (norm ?_)
      refine At.sR [1, 3] [0] [] ?_
      refine At.seq ?_
      refine At.sR [1, 3, 4] [0] [] ?_
      refine At.block ?_
      refine At.nK (st' := ⟨[(1, .ptr 0 0), (3, i64 0), (4, i64 0)], [.blk 27 (T_api_Trace.pvs p0)]⟩) [1, 3, 4] [0] ?_
      refine At.lp (fun s : (Int × Int) => ⟨[(1, .ptr 0 0), (3, i64 s.1), (4, i64 s.2)], [.blk 27 (T_api_Trace.pvs p0)]⟩) h ?_
      rintro ⟨x86, x87⟩ oo88 h f89
      replace h : F_retraceref32_Is_L3 p0 x86 x87 = some oo88 := h
      refine At.seq ?_
      refine At.sR [1, 3, 4, 33] [0] [] ?_
      refine At.cd h (fun b91 h => ?_) (fun b91 h => ?_)
      · refine At.nR [1, 3, 4] [0] ?_
        refine At.skip (norm ?_)
        refine At.seq ?_
        refine At.block ?_
        refine At.seq ?_
        refine At.seqJ (S := Bool) (fun s => ⟨[(1, .ptr 0 0), (3, i64 x86), (4, i64 x87), (65, bo s)], [.blk 27 (T_api_Trace.pvs p0)]⟩) (fun s => F_retraceref32_Is_J2 p0 x86 x87 s = some oo88) ?_ ?_
        · obtain ⟨y144, hy144, h⟩ := bs h
          rcases cs h with ⟨b145, h⟩ | ⟨b145, h⟩
          · exact At.dK 0 [1, 3, 4, 65] [0] [eT T_api_Mark.enc_len 3 hy144, bT 8 b145] fun _ _ i => ⟨true, h, i⟩
          · obtain ⟨y146, hy146, h⟩ := bs h
            obtain ⟨y147, hy147, h⟩ := bs h
            rcases cs h with ⟨b148, h⟩ | ⟨b148, h⟩
            · exact At.dK 0 [1, 3, 4, 65] [0] [eT T_api_Mark.enc_len 3 hy144, bT 8 b145, eT T_api_Mark.enc_len 12 hy146, c0 18 (C_retraceref31_Begin p0.Events x86 y147 hy147), bT 21 b148] fun _ _ i => ⟨true, h, i⟩
            · obtain ⟨y149, hy149, h⟩ := bs h
              exact At.dK 0 [1, 3, 4, 65] [0] [eT T_api_Mark.enc_len 3 hy144, bT 8 b145, eT T_api_Mark.enc_len 12 hy146, c0 18 (C_retraceref31_Begin p0.Events x86 y147 hy147), bT 21 b148, eT T_api_Mark.enc_len 25 hy149] fun _ _ i => ⟨(decide (y149.Events < 0)), h, i⟩
        · intro x140 h
          refine At.cd h (fun b141 h => ?_) (fun b141 h => ?_)
          · refine At.sR [2] [] [] ?_
            obtain ⟨r142, h, e143⟩ := mr h
            rw [f89 _ e143] at h
            obtain rfl := sq h
            exact At.ret (At.rR hR [])
          · refine At.nR [1, 3, 4] [0] ?_
            refine At.skip (norm ?_)
            refine At.rG [1, 3, 4] [0] [] (norm ?_)
            exact At.rK [1, 3, 4] [0] [] fun _ _ i => ⟨_, li h, i⟩
      · refine At.nR [] [] ?_
        obtain ⟨r150, h, e151⟩ := mr h
        rw [f89 _ e151] at h
        refine At.exit (norm ?_)
        refine At.sR [2] [] [] ?_
        obtain rfl := sq h
        exact At.ret (At.rR hR [])
theorem C_retraceref32_Next (p0 : T_api_Trace) (p1 : T_api_Frame) (r : T_retraceref32_Got) (h : F_retraceref32_Next p0 p1 = some r) : FnOK Tryz.prog 38 [.agg (T_api_Trace.pvs p0), .agg (T_api_Frame.pvs p1)] [] (.agg (T_retraceref32_Got.pvs r)) [] [] := by
  refine fI Tryz.func38 rfl fun E gv R hR => ?_
  refine At.sR [2, 3, 4] [0, 1, 2] [] ?_
  refine At.sR [2, 3, 4, 5] [0, 1, 2, 3] [] ?_
  refine At.sR [2, 3, 4, 5, 6] [0, 1, 2, 3, 4] [] ?_
  refine At.sR [2, 3, 4, 5, 6, 7] [0, 1, 2, 3, 4] [] ?_
  refine At.seqJ (S := Bool × ByteArray × Int × Int × Int × Int × (List T_api_Event) × (List T_api_Mark)) (fun s => ⟨[(4, .ptr 0 0), (5, .ptr 1 0), (6, .ptr 2 0), (7, bo s.1)], [.blk 32 [u32 0, i64 0, i64 0, .d (.list true 0 []), .d (.list true 0 []), i64 0], .blk 126 [sv s.2.1, i64 s.2.2.1], .blk 27 [u32 s.2.2.2.1, i64 s.2.2.2.2.1, i64 s.2.2.2.2.2.1, lv T_api_Event.enc s.2.2.2.2.2.2.1, lv T_api_Mark.enc s.2.2.2.2.2.2.2]]⟩) (fun s => F_retraceref32_Next_J1 s.1 s.2.1 s.2.2.1 s.2.2.2.1 s.2.2.2.2.1 s.2.2.2.2.2.1 s.2.2.2.2.2.2.1 s.2.2.2.2.2.2.2 = some r) ?_ ?_
  · refine At.sR [2, 3, 4, 5, 6, 7, 23] [0, 1, 2, 3, 4] [] ?_
    refine At.block ?_
    refine At.seq ?_
    refine At.rK (st' := ⟨[(2, .ptr 0 0), (3, .ptr 1 0), (4, .ptr 2 0), (5, .ptr 3 0), (6, .ptr 4 0), (7, bo (p0.Every != 0)), (23, i64 p1.Kind), (25, bo (p1.Kind == 1))], [.blk 27 (T_api_Trace.pvs p0), .blk 41 (T_api_Frame.pvs p1), .blk 32 [u32 0, i64 0, i64 0, .d (.list true 0 []), .d (.list true 0 []), i64 0], .blk 126 [sv p1.Data, i64 0], .blk 27 (T_api_Trace.pvs p0)]⟩) [2, 3, 4, 5, 6, 7, 23, 25] [0, 1, 2, 3, 4] [] (norm ?_)
    refine At.cd h (fun b59 h => ?_) (fun b59 h => ?_)
    · obtain ⟨y61, hy61, h⟩ := bs h
      refine At.sR [2, 4, 5, 6, 8] [0, 2, 3, 4] [cT 1 1 [3] (C_retraceref03_Reader_Num (⟨p1.Data, 0⟩ : T_retraceref03_Reader) y61 hy61)] ?_
      obtain ⟨y64, hy64, h⟩ := bs h
      obtain ⟨y65, hy65, h⟩ := bs h
      refine At.sR [2, 4, 5, 6, 8] [0, 1, 2, 3] [cT 3 1 [2] (C_retraceref03_Reader_Upto 1048576 y61.2 y64 hy64), cT 5 1 [2] (C_retraceref03_Reader_Upto 1048576 y64.2 y65 hy65)] ?_
      rcases cs h with ⟨b66, h⟩ | ⟨b66, h⟩
      · obtain ⟨y67, hy67, h⟩ := bs h
        exact At.rG [4, 5, 6, 7] [1, 2, 3] [bT 2 b66, c0 5 (C_retraceref32_Same p0 (⟨0, 0, 0, ([] : (List T_api_Event)), ([] : (List T_api_Mark))⟩ : T_api_Trace) y67 hy67)] fun _ _ i => ⟨(y67, y65.2.S, y65.2.Bad, (wu32 y61.1), y64.1, y65.1, ([] : List T_api_Event), ([] : List T_api_Mark)), h, i.en [.loO 2] [4, 5, 6, 7] [0, 1, 2]⟩
      · exact At.rG [4, 5, 6, 7] [1, 2, 3] [bT 2 b66] fun _ _ i => ⟨(false, y65.2.S, y65.2.Bad, (wu32 y61.1), y64.1, y65.1, ([] : List T_api_Event), ([] : List T_api_Mark)), h, i.en [.loO 2] [4, 5, 6, 7] [0, 1, 2]⟩
    · refine At.sR [2, 3, 4, 5, 6, 7, 23, 43] [0, 1, 2, 3, 4] [] ?_
      refine At.cd h (fun b68 h => ?_) (fun b68 h => ?_)
      · obtain ⟨y70, hy70, h⟩ := bs h
        refine At.sR [2, 4, 5, 6, 7, 9] [0, 2, 3, 4, 5] [c0 2 (C_retraceref31_Get p1.Data y70 hy70)] ?_
        refine At.seq ?_
        refine At.sR [2, 4, 5, 6, 7, 9, 50] [0, 1, 2, 3, 4] [] ?_
        refine At.cd h (fun b72 h => ?_) (fun b72 h => ?_)
        · refine At.sR [4] [1] [] ?_
          refine At.eN [.loO 0] [4] [0] ?_
          obtain rfl := sq h
          exact At.ret (At.rR hR [])
        · refine At.nR [2, 4, 5, 6, 7, 9] [0, 1, 2, 3, 4] ?_
          refine At.skip (norm ?_)
          refine At.sR [2, 4, 5, 6, 7, 9] [0, 1, 2, 3, 4] [] ?_
          obtain ⟨g73, h⟩ := gs h
          obtain ⟨g74, h⟩ := gs h
          exact At.dG 1 [4, 5, 6, 7] [1, 2, 3, 5] [aT T_api_Event.enc_len 3 ([] : List T_api_Event) p0.Events rfl g73, aT T_api_Event.enc_len 6 (([] : List T_api_Event) ++ p0.Events) y70.L rfl g74] fun _ _ i => ⟨((p0.Every != 0), (⟨#[]⟩ : ByteArray), 0, p0.Sum, p0.Fuel, p0.Every, ((([] : List T_api_Event) ++ p0.Events) ++ y70.L), p0.Marks), h, i.en [.settle 3] [4, 5, 6, 7] [0, 1, 2]⟩
      · refine At.sR [2, 4, 5, 6, 7, 23, 65] [0, 2, 3, 4] [] ?_
        refine At.cd h (fun b75 h => ?_) (fun b75 h => ?_)
        · obtain ⟨y78, hy78, h⟩ := bs h
          obtain ⟨y79, hy79, h⟩ := bs h
          refine At.sR [2, 4, 5, 6, 7, 10] [0, 1, 2, 3, 4] [cT 1 1 [2] (C_retraceref03_Reader_Upto 1048576 (⟨p1.Data, 0⟩ : T_retraceref03_Reader) y78 hy78), cT 3 1 [2] (C_retraceref03_Reader_Upto 1048576 y78.2 y79 hy79)] ?_
          obtain ⟨y81, hy81, h⟩ := bs h
          refine At.sR [2, 4, 5, 6, 7, 10] [0, 1, 2, 3, 4] [cT 1 1 [2] (C_retraceref30_Read y79.2 y81 hy81)] ?_
          obtain ⟨g82, h⟩ := gs h
          obtain ⟨g83, h⟩ := gs h
          exact At.dG 2 [4, 5, 6, 7] [1, 2, 3, 5] [aT T_api_Mark.enc_len 3 ([] : List T_api_Mark) p0.Marks rfl g82, aT T_api_Mark.enc_len 6 (([] : List T_api_Mark) ++ p0.Marks) ([(⟨y78.1, y79.1, y81.1⟩ : T_api_Mark)]) rfl g83] fun _ _ i => ⟨((p0.Every != 0), y81.2.S, y81.2.Bad, p0.Sum, p0.Fuel, p0.Every, p0.Events, ((([] : List T_api_Mark) ++ p0.Marks) ++ [(⟨y78.1, y79.1, y81.1⟩ : T_api_Mark)])), h, i.en [.settle 3] [4, 5, 6, 7] [0, 1, 2]⟩
        · refine At.sR [2, 4, 5, 6, 7, 83] [0, 1, 2, 3] [] ?_
          refine At.cd h (fun b84 h => ?_) (fun b84 h => ?_)
          · obtain ⟨y87, hy87, h⟩ := bs h
            obtain ⟨y88, hy88, h⟩ := bs h
            refine At.sR [2, 4, 5, 6, 7, 11, 12] [0, 1, 2, 3] [cT 1 1 [2] (C_retraceref03_Reader_Num (⟨p1.Data, 0⟩ : T_retraceref03_Reader) y87 hy87), cT 3 1 [2] (C_retraceref03_Reader_Num y87.2 y88 hy88)] ?_
            rcases cs h with ⟨b89, h⟩ | ⟨b89, h⟩
            · rcases cs h with ⟨b90, h⟩ | ⟨b90, h⟩
              · exact At.rK [4, 5, 6, 7] [1, 2, 3] [bT 1 b89, bT 9 b90] fun _ _ i => ⟨((y88.1 == (wu64 ((p0.Marks).length : Int))), y88.2.S, y88.2.Bad, p0.Sum, p0.Fuel, p0.Every, p0.Events, p0.Marks), h, i⟩
              · exact At.rK [4, 5, 6, 7] [1, 2, 3] [bT 1 b89, bT 9 b90] fun _ _ i => ⟨(false, y88.2.S, y88.2.Bad, p0.Sum, p0.Fuel, p0.Every, p0.Events, p0.Marks), h, i⟩
            · exact At.rK [4, 5, 6, 7] [1, 2, 3] [bT 1 b89] fun _ _ i => ⟨(false, y88.2.S, y88.2.Bad, p0.Sum, p0.Fuel, p0.Every, p0.Events, p0.Marks), h, i⟩
          · refine At.sR [4] [1] [] ?_
            refine At.eN [.loO 0] [4] [0] ?_
            obtain rfl := sq h
            exact At.ret (At.rR hR [])
  · rintro ⟨x33, x34, x35, x36, x37, x38, x39, x40⟩ h
    replace h : F_retraceref32_Next_J1 x33 x34 x35 x36 x37 x38 x39 x40 = some r := h
    refine At.seq ?_
    obtain ⟨y45, hy45, h⟩ := bs h
    refine At.sR [4, 6, 7, 13] [0, 2] [cT 1 1 [1] (C_retraceref03_Reader_End (⟨x34, x35⟩ : T_retraceref03_Reader) y45 hy45)] ?_
    refine At.sR [4, 6, 7, 13, 109] [0, 1] [] ?_
    refine At.cd h (fun b46 h => ?_) (fun b46 h => ?_)
    · refine At.sR [4] [0] [] ?_
      refine At.eN [.loO 0] [4] [0] ?_
      obtain rfl := sq h
      exact At.ret (At.rR hR [])
    · refine At.nR [4, 6, 7] [0, 1] ?_
      refine At.skip (norm ?_)
      refine At.seq ?_
      refine At.seqJ (S := Bool) (fun s => ⟨[(4, .ptr 0 0), (6, .ptr 1 0), (118, bo s)], [.blk 32 [u32 0, i64 0, i64 0, .d (.list true 0 []), .d (.list true 0 []), i64 0], .blk 27 [u32 x36, i64 x37, i64 x38, lv T_api_Event.enc x39, lv T_api_Mark.enc x40]]⟩) (fun s => F_retraceref32_Next_J2 x36 x37 x38 x39 x40 s = some r) ?_ ?_
      · rcases cs h with ⟨b57, h⟩ | ⟨b57, h⟩
        · exact At.rK [4, 6, 118] [0, 1] [bT 2 b57] fun _ _ i => ⟨true, h, i⟩
        · obtain ⟨y58, hy58, h⟩ := bs h
          exact At.rK [4, 6, 118] [0, 1] [bT 2 b57, c0 4 (C_retraceref32_Is (⟨x36, x37, x38, x39, x40⟩ : T_api_Trace) y58 hy58)] fun _ _ i => ⟨(!y58), h, i⟩
      · intro x55 h
        refine At.cd h (fun b56 h => ?_) (fun b56 h => ?_)
        · refine At.sR [4] [0] [] ?_
          refine At.eN [.loO 0] [4] [0] ?_
          obtain rfl := sq h
          exact At.ret (At.rR hR [])
        · refine At.nR [4, 6] [0, 1] ?_
          refine At.skip (norm ?_)
          refine At.sR [4] [0] [] ?_
          obtain rfl := sq h
          exact At.ret (At.rR hR [])
theorem C_retraceref32_Fold (p0 : (List T_api_Frame)) (r : T_api_Trace × Int × Int) (h : F_retraceref32_Fold p0 = some r) : FnOK Tryz.prog 17 [lv T_api_Frame.enc p0] [] (.tup [.agg (T_api_Trace.pvs r.1), i64 r.2.1, i64 r.2.2]) [] [] := by
  refine fI Tryz.func17 rfl fun E gv R hR => ?_
  refine At.sR [0, 2] [0] [] ?_
  refine At.sR [0, 2, 5] [0, 1] [] ?_
  refine At.seq ?_
  refine At.sR [0, 2, 5, 6] [0, 1] [] ?_
  refine At.block ?_
  refine At.nK (st' := ⟨[(0, lv T_api_Frame.enc p0), (2, .ptr 0 0), (5, .ptr 1 0), (6, i64 0)], [.blk 27 [u32 0, i64 0, i64 0, .d (.list true 0 []), .d (.list true 0 [])], .blk 27 [u32 0, i64 0, i64 0, .d (.list true 0 []), .d (.list true 0 [])]]⟩) [0, 2, 5, 6] [0, 1] ?_
  refine At.edNar [.loO 1] [0, 2, 5, 6] [0, 1] (st' := ⟨[(0, lv T_api_Frame.enc p0), (2, .ptr 0 0), (5, .ptr 1 0), (6, i64 0)], [.blk 27 [u32 0, i64 0, i64 0, .d (.list true 0 []), .d (.list true 0 [])], .blk 27 [u32 0, i64 0, i64 0, lv T_api_Event.enc ([] : List T_api_Event), lv T_api_Mark.enc ([] : List T_api_Mark)]]⟩) (by kernel_rfl) ?_
  refine At.lp (fun s : (Int × Int × Int × Int × (List T_api_Event) × (List T_api_Mark)) => ⟨[(0, lv T_api_Frame.enc p0), (2, .ptr 0 0), (5, .ptr 1 0), (6, i64 s.1)], [.blk 27 [u32 0, i64 0, i64 0, .d (.list true 0 []), .d (.list true 0 [])], .blk 27 [u32 s.2.1, i64 s.2.2.1, i64 s.2.2.2.1, lv T_api_Event.enc s.2.2.2.2.1, lv T_api_Mark.enc s.2.2.2.2.2]]⟩) h ?_
  rintro ⟨x27, x28, x29, x30, x31, x32⟩ oo33 h f34
  replace h : F_retraceref32_Fold_L1 p0 x27 x28 x29 x30 x31 x32 = some oo33 := h
  refine At.seq ?_
  refine At.sR [0, 2, 5, 6, 11] [0, 1] [] ?_
  refine At.cd h (fun b36 h => ?_) (fun b36 h => ?_)
  · refine At.nR [0, 2, 5, 6] [0, 1] ?_
    refine At.skip (norm ?_)
    refine At.seq ?_
    refine At.block ?_
    obtain ⟨y45, hy45, h⟩ := bs h
    obtain ⟨y46, hy46, h⟩ := bs h
    refine At.sD 1 [0, 2, 5, 6, 7] [0, 1, 2] [eT T_api_Frame.enc_len 3 hy45, c0 5 (C_retraceref32_Next (⟨x28, x29, x30, x31, x32⟩ : T_api_Trace) y45 y46 hy46)] ?_
    refine At.seq ?_
    refine At.sR [0, 2, 5, 6, 7, 22] [0, 1, 2] [] ?_
    refine At.cd h (fun b48 h => ?_) (fun b48 h => ?_)
    · refine At.sD 0 [2, 3, 4] [0] [] ?_
      obtain ⟨r49, h, e50⟩ := mr h
      rw [f34 _ e50] at h
      obtain rfl := sq h
      exact At.ret (At.rR hR [])
    · refine At.nR [0, 2, 5, 6, 7] [0, 1, 2] ?_
      refine At.skip (norm ?_)
      refine At.rK (st' := ⟨[(0, lv T_api_Frame.enc p0), (2, .ptr 0 0), (5, .ptr 1 0), (6, i64 x27)], [.blk 27 [u32 0, i64 0, i64 0, .d (.list true 0 []), .d (.list true 0 [])], .blk 27 (T_api_Trace.pvs y46.T)]⟩) [0, 2, 5, 6] [0, 1] [] (norm ?_)
      exact At.rK [0, 2, 5, 6] [0, 1] [] fun _ _ i => ⟨_, li h, i⟩
  · refine At.nR [0, 2, 5] [0, 1] ?_
    obtain ⟨r51, h, e52⟩ := mr h
    rw [f34 _ e52] at h
    refine At.exit (norm ?_)
    refine At.sR [2, 3, 4] [0] [] ?_
    obtain rfl := sq h
    exact At.ret (At.rR hR [])
theorem C_retraceref01_Num_B (self : Int → Option (ByteArray)) (hself : ∀ (p0 : Int) (r : ByteArray), self p0 = some r → FnOK Tryz.prog 48 [u64 p0] [] (sv r) [] []) (p0 : Int) (r : ByteArray) (h : F_retraceref01_Num_B self p0 = some r) : FnOK Tryz.prog 48 [u64 p0] [] (sv r) [] [] := by
  refine fI Tryz.func48 rfl fun E gv R hR => ?_
  refine At.sR [0] [] [] ?_
  refine At.seq ?_
  refine At.sR [0, 4] [] [] ?_
  refine At.cd h (fun b2 h => ?_) (fun b2 h => ?_)
  · refine At.sR [2] [] [tT 3 ({ orc := .nums ([(wu8 p0)]) }) (allc (encL_map .u8 ([(wu8 p0)])) (allc (rfl : (([(wu8 p0)])).length = (([(wu8 p0)])).length) all0))] ?_
    obtain rfl := sq h
    exact At.ret (At.rR hR [])
  · refine At.nR [0] [] ?_
    refine At.skip (norm ?_)
    obtain ⟨y5, hy5, h⟩ := bs h
    obtain ⟨g6, h⟩ := gs h
    refine At.sD 1 [2] [] [oT 1 (by decide : 128 ≠ (0:Int)), tT 5 ({ orc := .nums ([(wu8 ((wu8 (Int.tmod p0 128)) + 128))]) }) (allc (encL_map .u8 ([(wu8 ((wu8 (Int.tmod p0 128)) + 128))])) (allc (rfl : (([(wu8 ((wu8 (Int.tmod p0 128)) + 128))])).length = (([(wu8 ((wu8 (Int.tmod p0 128)) + 128))])).length) all0)), oT 7 (by decide : 128 ≠ (0:Int)), c0 8 (hself (wu64 (Int.tdiv p0 128)) y5 hy5), oT 9 g6] ?_
    obtain rfl := sq h
    exact At.ret (At.rR hR [])
theorem C_retraceref01_Num_N : ∀ (n : Nat) (p0 : Int) (r : ByteArray), F_retraceref01_Num_N n p0 = some r → FnOK Tryz.prog 48 [u64 p0] [] (sv r) [] []
  | 0, _, _, h => by simp [F_retraceref01_Num_N] at h
  | n + 1, p0, r, h => C_retraceref01_Num_B (F_retraceref01_Num_N n) (C_retraceref01_Num_N n) p0 r h
theorem C_retraceref01_Num (p0 : Int) (r : ByteArray) (h : F_retraceref01_Num p0 = some r) : FnOK Tryz.prog 48 [u64 p0] [] (sv r) [] [] := by
  obtain ⟨n, h⟩ := lim_some h
  exact C_retraceref01_Num_N n p0 r h
theorem C_retraceref32_num (p0 : Int) (r : ByteArray) (h : F_retraceref32_num p0 = some r) : FnOK Tryz.prog 74 [i64 p0] [] (sv r) [] [] := by
  refine fI Tryz.func74 rfl fun E gv R hR => ?_
  refine At.sR [0] [] [] ?_
  obtain ⟨y2, hy2, h⟩ := bs h
  refine At.sR [2] [] [c0 2 (C_retraceref01_Num (wu64 p0) y2 hy2)] ?_
  obtain rfl := sq h
  exact At.ret (At.rR hR [])
theorem C_retraceref01_Zig (p0 : Int) (r : Int) (h : F_retraceref01_Zig p0 = some r) : FnOK Tryz.prog 119 [i64 p0] [] (u64 r) [] [] := by
  refine fI Tryz.func119 rfl fun E gv R hR => ?_
  refine At.sR [0] [] [] ?_
  refine At.seq ?_
  refine At.sR [0, 4] [] [] ?_
  refine At.cd h (fun b2 h => ?_) (fun b2 h => ?_)
  · refine At.sR [2] [] [] ?_
    obtain rfl := sq h
    exact At.ret (At.rR hR [])
  · refine At.nR [0] [] ?_
    refine At.skip (norm ?_)
    refine At.sR [2] [] [] ?_
    obtain rfl := sq h
    exact At.ret (At.rR hR [])
theorem C_retraceref03_Int (p0 : Int) (r : ByteArray) (h : F_retraceref03_Int p0 = some r) : FnOK Tryz.prog 108 [i64 p0] [] (sv r) [] [] := by
  refine fI Tryz.func108 rfl fun E gv R hR => ?_
  refine At.sR [0] [] [] ?_
  obtain ⟨y3, hy3, h⟩ := bs h
  obtain ⟨y4, hy4, h⟩ := bs h
  refine At.sR [2] [] [c0 1 (C_retraceref01_Zig p0 y3 hy3), c0 2 (C_retraceref01_Num y3 y4 hy4)] ?_
  obtain rfl := sq h
  exact At.ret (At.rR hR [])
theorem C_retraceref31_Put (p0 : (List T_api_Event)) (r : ByteArray) (h : F_retraceref31_Put p0 = some r) : FnOK Tryz.prog 107 [lv T_api_Event.enc p0] [] (sv r) [] [] := by
  refine fI Tryz.func107 rfl fun E gv R hR => ?_
  refine At.sR [0] [] [] ?_
  obtain ⟨y2, hy2, h⟩ := bs h
  refine At.sR [0, 3] [] [c0 3 (C_retraceref01_Num (wu64 ((p0).length : Int)) y2 hy2)] ?_
  refine At.seq ?_
  refine At.sR [0, 3, 4] [] [] ?_
  refine At.block ?_
  refine At.nK (st' := ⟨[(0, lv T_api_Event.enc p0), (3, sv y2), (4, i64 0)], []⟩) [0, 3, 4] [] ?_
  refine At.lp (fun s : (ByteArray × Int) => ⟨[(0, lv T_api_Event.enc p0), (3, sv s.1), (4, i64 s.2)], []⟩) h ?_
  rintro ⟨x23, x24⟩ oo25 h f26
  replace h : F_retraceref31_Put_L1 p0 x23 x24 = some oo25 := h
  refine At.seq ?_
  refine At.sR [0, 3, 4, 12] [] [] ?_
  refine At.cd h (fun b28 h => ?_) (fun b28 h => ?_)
  · refine At.nR [0, 3, 4] [] ?_
    refine At.skip (norm ?_)
    refine At.seq ?_
    refine At.block ?_
    obtain ⟨y35, hy35, h⟩ := bs h
    obtain ⟨y36, hy36, h⟩ := bs h
    obtain ⟨g37, h⟩ := gs h
    obtain ⟨y38, hy38, h⟩ := bs h
    obtain ⟨y39, hy39, h⟩ := bs h
    obtain ⟨g40, h⟩ := gs h
    refine At.dG 0 [0, 3, 4] [] [eT T_api_Event.enc_len 3 hy35, c0 6 (C_retraceref03_Int y35.Kind y36 hy36), oT 7 g37, eT T_api_Event.enc_len 10 hy38, c0 13 (C_retraceref03_Int y38.N y39 hy39), oT 14 g40] (norm ?_)
    exact At.rK [0, 3, 4] [] [] fun _ _ i => ⟨_, li h, i⟩
  · refine At.nR [3] [] ?_
    obtain ⟨r41, h, e42⟩ := mr h
    rw [f26 _ e42] at h
    refine At.exit (norm ?_)
    refine At.sR [2] [] [] ?_
    obtain rfl := sq h
    exact At.ret (At.rR hR [])
theorem C_retraceref32_part (p0 : (List T_api_Event)) (r : (List T_api_Frame)) (h : F_retraceref32_part p0 = some r) : FnOK Tryz.prog 75 [lv T_api_Event.enc p0] [] (.row 0 (r).length) [.row 41 2 (encL T_api_Frame.enc r)] [] := by
  refine fI Tryz.func75 rfl fun E gv R hR => ?_
  refine At.sR [0] [] [] ?_
  refine At.seq ?_
  refine At.sR [0, 5] [] [] ?_
  refine At.cd h (fun b2 h => ?_) (fun b2 h => ?_)
  · refine At.sR [2] [] [] ?_
    refine At.eN [.ownS 2 41 2] [2] [0] ?_
    obtain rfl := sq h
    exact At.ret (At.rR hR [0])
  · refine At.nR [0] [] ?_
    refine At.skip (norm ?_)
    obtain ⟨y4, hy4, h⟩ := bs h
    refine At.sR [2] [0] [c0 1 (C_retraceref31_Put p0 y4 hy4)] ?_
    obtain rfl := sq h
    exact At.ret (At.rR hR [0])
theorem C_retraceref03_Ints (p0 : (List Int)) (r : ByteArray) (h : F_retraceref03_Ints p0 = some r) : FnOK Tryz.prog 110 [lv (eInt .i64) p0] [] (sv r) [] [] := by
  refine fI Tryz.func110 rfl fun E gv R hR => ?_
  refine At.sR [0] [] [] ?_
  obtain ⟨y2, hy2, h⟩ := bs h
  refine At.sR [0, 3] [] [c0 3 (C_retraceref01_Num (wu64 ((p0).length : Int)) y2 hy2)] ?_
  refine At.seq ?_
  refine At.sR [0, 3, 4] [] [] ?_
  refine At.block ?_
  refine At.nK (st' := ⟨[(0, lv (eInt .i64) p0), (3, sv y2), (4, i64 0)], []⟩) [0, 3, 4] [] ?_
  refine At.lp (fun s : (ByteArray × Int) => ⟨[(0, lv (eInt .i64) p0), (3, sv s.1), (4, i64 s.2)], []⟩) h ?_
  rintro ⟨x17, x18⟩ oo19 h f20
  replace h : F_retraceref03_Ints_L1 p0 x17 x18 = some oo19 := h
  refine At.seq ?_
  refine At.sR [0, 3, 4, 12] [] [] ?_
  refine At.cd h (fun b22 h => ?_) (fun b22 h => ?_)
  · refine At.nR [0, 3, 4] [] ?_
    refine At.skip (norm ?_)
    refine At.seq ?_
    refine At.block ?_
    obtain ⟨y26, hy26, h⟩ := bs h
    obtain ⟨y27, hy27, h⟩ := bs h
    obtain ⟨g28, h⟩ := gs h
    refine At.rG [0, 3, 4] [] [eT (he_int .i64) 3 hy26, c0 5 (C_retraceref03_Int y26 y27 hy27), oT 6 g28] (norm ?_)
    exact At.rK [0, 3, 4] [] [] fun _ _ i => ⟨_, li h, i⟩
  · refine At.nR [3] [] ?_
    obtain ⟨r29, h, e30⟩ := mr h
    rw [f20 _ e30] at h
    refine At.exit (norm ?_)
    refine At.sR [2] [] [] ?_
    obtain rfl := sq h
    exact At.ret (At.rR hR [])
theorem C_retraceref30_proc (p0 : T_api_Proc) (r : ByteArray) (h : F_retraceref30_proc p0 = some r) : FnOK Tryz.prog 109 [.agg (T_api_Proc.pvs p0)] [] (sv r) [] [] := by
  refine fI Tryz.func109 rfl fun E gv R hR => ?_
  refine At.sR [1] [0] [] ?_
  obtain ⟨y20, hy20, h⟩ := bs h
  obtain ⟨y21, hy21, h⟩ := bs h
  obtain ⟨g22, h⟩ := gs h
  obtain ⟨y23, hy23, h⟩ := bs h
  obtain ⟨g24, h⟩ := gs h
  obtain ⟨y25, hy25, h⟩ := bs h
  obtain ⟨g26, h⟩ := gs h
  obtain ⟨y27, hy27, h⟩ := bs h
  obtain ⟨g28, h⟩ := gs h
  obtain ⟨y29, hy29, h⟩ := bs h
  obtain ⟨g30, h⟩ := gs h
  obtain ⟨y31, hy31, h⟩ := bs h
  obtain ⟨g32, h⟩ := gs h
  obtain ⟨y33, hy33, h⟩ := bs h
  obtain ⟨g34, h⟩ := gs h
  obtain ⟨y35, hy35, h⟩ := bs h
  obtain ⟨g36, h⟩ := gs h
  obtain ⟨y37, hy37, h⟩ := bs h
  obtain ⟨g38, h⟩ := gs h
  refine At.sD 0 [1, 3] [0] [c0 2 (C_retraceref03_Int p0.Def y20 hy20), c0 5 (C_retraceref03_Int p0.At y21 hy21), oT 6 g22, c0 9 (C_retraceref03_Ints p0.Vars y23 hy23), oT 10 g24, c0 13 (C_retraceref03_Int p0.Fuel y25 hy25), oT 14 g26, c0 17 (C_retraceref03_Int p0.Mode y27 hy27), oT 18 g28, c0 21 (C_retraceref03_Int p0.Chan y29 hy29), oT 22 g30, c0 25 (C_retraceref03_Int p0.Val y31 hy31), oT 26 g32, c0 29 (C_retraceref03_Int p0.Slot y33 hy33), oT 30 g34, c0 33 (C_retraceref03_Int p0.Until y35 hy35), oT 34 g36, c0 37 (C_retraceref03_Int p0.Since y37 hy37), oT 38 g38] ?_
  obtain ⟨y41, hy41, h⟩ := bs h
  obtain ⟨g42, h⟩ := gs h
  refine At.sR [1, 3] [0] [c0 5 (C_retraceref01_Num (wu64 ((p0.Alts).length : Int)) y41 hy41), oT 6 g42] ?_
  refine At.seq ?_
  refine At.sR [1, 3, 4] [0] [] ?_
  refine At.block ?_
  refine At.nK (st' := ⟨[(1, .ptr 0 0), (3, sv ((((((((((y20 ++ y21) ++ y23) ++ y25) ++ y27) ++ y29) ++ y31) ++ y33) ++ y35) ++ y37) ++ y41)), (4, i64 0)], [.blk 90 (T_api_Proc.pvs p0)]⟩) [1, 3, 4] [0] ?_
  refine At.lp (fun s : (ByteArray × Int) => ⟨[(1, .ptr 0 0), (3, sv s.1), (4, i64 s.2)], [.blk 90 (T_api_Proc.pvs p0)]⟩) h ?_
  rintro ⟨x75, x76⟩ oo77 h f78
  replace h : F_retraceref30_proc_L1 p0 x75 x76 = some oo77 := h
  refine At.seq ?_
  refine At.sR [1, 3, 4, 56] [0] [] ?_
  refine At.cd h (fun b80 h => ?_) (fun b80 h => ?_)
  · refine At.nR [1, 3, 4] [0] ?_
    refine At.skip (norm ?_)
    refine At.seq ?_
    refine At.block ?_
    obtain ⟨y94, hy94, h⟩ := bs h
    refine At.sR [1, 3, 4, 5] [0, 1] [eT T_api_Alt.enc_len 3 hy94] ?_
    obtain ⟨y95, hy95, h⟩ := bs h
    obtain ⟨g96, h⟩ := gs h
    obtain ⟨y97, hy97, h⟩ := bs h
    obtain ⟨g98, h⟩ := gs h
    obtain ⟨y99, hy99, h⟩ := bs h
    obtain ⟨g100, h⟩ := gs h
    obtain ⟨y101, hy101, h⟩ := bs h
    obtain ⟨g102, h⟩ := gs h
    obtain ⟨y103, hy103, h⟩ := bs h
    obtain ⟨g104, h⟩ := gs h
    refine At.dG 0 [1, 3, 4] [0] [c0 3 (C_retraceref03_Int y94.Kind y95 hy95), oT 4 g96, c0 7 (C_retraceref03_Int y94.Chan y97 hy97), oT 8 g98, c0 11 (C_retraceref03_Int y94.Val y99 hy99), oT 12 g100, c0 15 (C_retraceref03_Int y94.Slot y101 hy101), oT 16 g102, c0 19 (C_retraceref03_Int y94.Goto y103 hy103), oT 20 g104] (norm ?_)
    exact At.rK [1, 3, 4] [0] [] fun _ _ i => ⟨_, li h, i⟩
  · refine At.nR [3] [] ?_
    obtain ⟨r105, h, e106⟩ := mr h
    rw [f78 _ e106] at h
    refine At.exit (norm ?_)
    refine At.sR [2] [] [] ?_
    obtain rfl := sq h
    exact At.ret (At.rR hR [])
theorem C_retraceref30_Put (p0 : T_api_State) (r : ByteArray) (h : F_retraceref30_Put p0 = some r) : FnOK Tryz.prog 76 [.agg (T_api_State.pvs p0)] [] (sv r) [] [] := by
  refine fI Tryz.func76 rfl fun E gv R hR => ?_
  refine At.sR [1] [0] [] ?_
  obtain ⟨y12, hy12, h⟩ := bs h
  obtain ⟨y13, hy13, h⟩ := bs h
  obtain ⟨g14, h⟩ := gs h
  obtain ⟨y15, hy15, h⟩ := bs h
  obtain ⟨g16, h⟩ := gs h
  obtain ⟨y17, hy17, h⟩ := bs h
  obtain ⟨g18, h⟩ := gs h
  obtain ⟨y19, hy19, h⟩ := bs h
  obtain ⟨g20, h⟩ := gs h
  obtain ⟨y21, hy21, h⟩ := bs h
  obtain ⟨g22, h⟩ := gs h
  refine At.sD 0 [1, 3] [0] [c0 2 (C_retraceref03_Int p0.Now y12 hy12), c0 5 (C_retraceref03_Int p0.Since y13 hy13), oT 6 g14, c0 9 (C_retraceref03_Int p0.Halt y15 hy15), oT 10 g16, c0 13 (C_retraceref03_Int p0.Fault y17 hy17), oT 14 g18, c0 17 (C_retraceref03_Int p0.Who y19 hy19), oT 18 g20, c0 23 (C_retraceref01_Num (wu64 ((p0.Procs).length : Int)) y21 hy21), oT 24 g22] ?_
  refine At.seq ?_
  refine At.sR [1, 3, 4] [0] [] ?_
  refine At.block ?_
  refine At.nK (st' := ⟨[(1, .ptr 0 0), (3, sv (((((y12 ++ y13) ++ y15) ++ y17) ++ y19) ++ y21)), (4, i64 0)], [.blk 58 (T_api_State.pvs p0)]⟩) [1, 3, 4] [0] ?_
  refine At.lp (fun s : (ByteArray × Int) => ⟨[(1, .ptr 0 0), (3, sv s.1), (4, i64 s.2)], [.blk 58 (T_api_State.pvs p0)]⟩) h ?_
  rintro ⟨x37, x38⟩ oo39 h f40
  replace h : F_retraceref30_Put_L1 p0 x37 x38 = some oo39 := h
  refine At.seq ?_
  refine At.sR [1, 3, 4, 34] [0] [] ?_
  refine At.cd h (fun b42 h => ?_) (fun b42 h => ?_)
  · refine At.nR [1, 3, 4] [0] ?_
    refine At.skip (norm ?_)
    refine At.seq ?_
    refine At.block ?_
    obtain ⟨y46, hy46, h⟩ := bs h
    obtain ⟨y47, hy47, h⟩ := bs h
    obtain ⟨g48, h⟩ := gs h
    refine At.rG [1, 3, 4] [0] [eT T_api_Proc.enc_len 4 hy46, c0 6 (C_retraceref30_proc y46 y47 hy47), oT 7 g48] (norm ?_)
    exact At.rK [1, 3, 4] [0] [] fun _ _ i => ⟨_, li h, i⟩
  · refine At.nR [1, 3] [0] ?_
    obtain ⟨r49, h, e50⟩ := mr h
    rw [f40 _ e50] at h
    refine At.exit (norm ?_)
    obtain ⟨y53, hy53, h⟩ := bs h
    obtain ⟨g54, h⟩ := gs h
    refine At.sR [2] [] [c0 3 (C_retraceref03_Ints p0.Out y53 hy53), oT 4 g54] ?_
    obtain rfl := sq h
    exact At.ret (At.rR hR [])
theorem C_retraceref32_Frames (p0 : T_api_Trace) (r : (List T_api_Frame)) (h : F_retraceref32_Frames p0 = some r) : FnOK Tryz.prog 39 [.agg (T_api_Trace.pvs p0)] [] (.row 0 (r).length) [.row 41 2 (encL T_api_Frame.enc r)] [] := by
  refine fI Tryz.func39 rfl fun E gv R hR => ?_
  refine At.sR [1] [0] [] ?_
  obtain ⟨y6, hy6, h⟩ := bs h
  obtain ⟨y7, hy7, h⟩ := bs h
  obtain ⟨g8, h⟩ := gs h
  obtain ⟨y9, hy9, h⟩ := bs h
  obtain ⟨g10, h⟩ := gs h
  refine At.sD 1 [1, 3] [0, 1] [c0 3 (C_retraceref32_num (w64 p0.Sum) y6 hy6), c0 6 (C_retraceref32_num p0.Fuel y7 hy7), oT 7 g8, c0 10 (C_retraceref32_num p0.Every y9 hy9), oT 11 g10] ?_
  refine At.sR [1, 3, 4] [0, 1] [] ?_
  refine At.seq ?_
  refine At.sR [1, 3, 4, 5] [0, 1] [] ?_
  refine At.block ?_
  refine At.nK (st' := ⟨[(1, .ptr 0 0), (3, .row 1 ([(⟨1, ((y6 ++ y7) ++ y9)⟩ : T_api_Frame)]).length), (4, i64 0), (5, i64 0)], [.blk 27 (T_api_Trace.pvs p0), .row 41 2 (encL T_api_Frame.enc ([(⟨1, ((y6 ++ y7) ++ y9)⟩ : T_api_Frame)]))]⟩) [1, 3, 4, 5] [0, 1] ?_
  refine At.lp (fun s : (Int × Int × (List T_api_Frame)) => ⟨[(1, .ptr 0 0), (3, .row 1 (s.2.2).length), (4, i64 s.1), (5, i64 s.2.1)], [.blk 27 (T_api_Trace.pvs p0), .row 41 2 (encL T_api_Frame.enc s.2.2)]⟩) h ?_
  rintro ⟨x60, x61, x62⟩ oo63 h f64
  replace h : F_retraceref32_Frames_L1 p0 x60 x61 x62 = some oo63 := h
  refine At.seq ?_
  refine At.sR [1, 3, 4, 5, 25] [0, 1] [] ?_
  refine At.cd h (fun b66 h => ?_) (fun b66 h => ?_)
  · refine At.nR [1, 3, 4, 5] [0, 1] ?_
    refine At.skip (norm ?_)
    refine At.seq ?_
    refine At.block ?_
    obtain ⟨y88, hy88, h⟩ := bs h
    refine At.sR [1, 3, 4, 5, 6] [0, 1, 2] [eT T_api_Mark.enc_len 3 hy88] ?_
    obtain ⟨g92, h⟩ := gs h
    obtain ⟨y93, hy93, h⟩ := bs h
    obtain ⟨g94, h⟩ := gs h
    refine At.sR [1, 3, 5, 6] [0, 1, 2] [tT 6 ({ form := some ((lCut p0.Events x60 y88.Events).length, encL T_api_Event.enc (lCut p0.Events x60 y88.Events)) }) (allc ((cut_ok T_api_Event.enc_len g92).1) (allc ((cut_ok T_api_Event.enc_len g92).2) (allc g92 all0))), cT 7 0 [3] (C_retraceref32_part (lCut p0.Events x60 y88.Events) y93 hy93), aT T_api_Frame.enc_len 8 x62 y93 rfl g94] ?_
    obtain ⟨y101, hy101, h⟩ := bs h
    obtain ⟨y102, hy102, h⟩ := bs h
    obtain ⟨g103, h⟩ := gs h
    obtain ⟨y104, hy104, h⟩ := bs h
    obtain ⟨g105, h⟩ := gs h
    obtain ⟨g106, h⟩ := gs h
    refine At.sD 1 [1, 3, 5, 6] [0, 1, 2] [c0 3 (C_retraceref32_num y88.Step y101 hy101), c0 6 (C_retraceref32_num y88.Events y102 hy102), oT 7 g103, c0 10 (C_retraceref30_Put y88.State y104 hy104), oT 11 g105, aT T_api_Frame.enc_len 14 (x62 ++ y93) ([(⟨3, ((y101 ++ y102) ++ y104)⟩ : T_api_Frame)]) rfl g106] ?_
    refine At.rK (st' := ⟨[(1, .ptr 0 0), (3, .row 1 (((x62 ++ y93) ++ [(⟨3, ((y101 ++ y102) ++ y104)⟩ : T_api_Frame)])).length), (4, i64 y88.Events), (5, i64 x61)], [.blk 27 (T_api_Trace.pvs p0), .row 41 2 (encL T_api_Frame.enc ((x62 ++ y93) ++ [(⟨3, ((y101 ++ y102) ++ y104)⟩ : T_api_Frame)]))]⟩) [1, 3, 4, 5] [0, 1] [] (norm ?_)
    exact At.rK [1, 3, 4, 5] [0, 1] [] fun _ _ i => ⟨_, li h, i⟩
  · refine At.nR [1, 3, 4] [0, 1] ?_
    obtain ⟨r107, h, e108⟩ := mr h
    rw [f64 _ e108] at h
    refine At.exit (norm ?_)
    obtain ⟨g112, h⟩ := gs h
    obtain ⟨y113, hy113, h⟩ := bs h
    obtain ⟨g114, h⟩ := gs h
    refine At.sR [1, 3] [0, 1] [tT 4 ({ form := some ((lCut p0.Events x60 ((p0.Events).length : Int)).length, encL T_api_Event.enc (lCut p0.Events x60 ((p0.Events).length : Int))) }) (allc ((cut_ok T_api_Event.enc_len g112).1) (allc ((cut_ok T_api_Event.enc_len g112).2) (allc g112 all0))), cT 5 0 [2] (C_retraceref32_part (lCut p0.Events x60 ((p0.Events).length : Int)) y113 hy113), aT T_api_Frame.enc_len 6 x62 y113 rfl g114] ?_
    obtain ⟨y119, hy119, h⟩ := bs h
    obtain ⟨y120, hy120, h⟩ := bs h
    obtain ⟨g121, h⟩ := gs h
    obtain ⟨g122, h⟩ := gs h
    refine At.sD 1 [2] [1] [c0 4 (C_retraceref32_num ((p0.Events).length : Int) y119 hy119), c0 8 (C_retraceref32_num ((p0.Marks).length : Int) y120 hy120), oT 9 g121, aT T_api_Frame.enc_len 12 (x62 ++ y113) ([(⟨4, (y119 ++ y120)⟩ : T_api_Frame)]) rfl g122] ?_
    obtain rfl := sq h
    exact At.ret (At.rR hR [0])
theorem C_retraceref04_Bytes (p0 : T_api_Frame) (r : ByteArray × Int) (h : F_retraceref04_Bytes p0 = some r) : FnOK Tryz.prog 23 [.agg (T_api_Frame.pvs p0)] [] (.tup [sv r.1, i64 r.2]) [] [] := by
  refine fI Tryz.func23 rfl fun E gv R hR => ?_
  refine At.sR [1] [0] [] ?_
  refine At.seq ?_
  refine At.seqJ (S := Bool) (fun s => ⟨[(1, .ptr 0 0), (12, bo s)], [.blk 41 (T_api_Frame.pvs p0)]⟩) (fun s => F_retraceref04_Bytes_J1 p0 s = some r) ?_ ?_
  · rcases cs h with ⟨b22, h⟩ | ⟨b22, h⟩
    · exact At.rK [1, 12] [0] [bT 3 b22] fun _ _ i => ⟨true, h, i⟩
    · exact At.rK [1, 12] [0] [bT 3 b22] fun _ _ i => ⟨(decide (255 < p0.Kind)), h, i⟩
  · intro x6 h
    refine At.cd h (fun b7 h => ?_) (fun b7 h => ?_)
    · refine At.sR [2, 3] [] [] ?_
      obtain rfl := sq h
      exact At.ret (At.rR hR [])
    · refine At.nR [1] [0] ?_
      refine At.skip (norm ?_)
      refine At.seq ?_
      refine At.sR [1, 16] [0] [] ?_
      refine At.cd h (fun b9 h => ?_) (fun b9 h => ?_)
      · refine At.sR [2, 3] [] [] ?_
        obtain rfl := sq h
        exact At.ret (At.rR hR [])
      · refine At.nR [1] [0] ?_
        refine At.skip (norm ?_)
        obtain ⟨y13, hy13, h⟩ := bs h
        obtain ⟨g14, h⟩ := gs h
        obtain ⟨g15, h⟩ := gs h
        refine At.sD 1 [4] [] [tT 4 ({ orc := .nums ([(wu8 p0.Kind)]) }) (allc (encL_map .u8 ([(wu8 p0.Kind)])) (allc (rfl : (([(wu8 p0.Kind)])).length = (([(wu8 p0.Kind)])).length) all0)), c0 9 (C_retraceref01_Num (wu64 (p0.Data.size : Int)) y13 hy13), oT 10 g14, oT 13 g15] ?_
        obtain ⟨y19, hy19, h⟩ := bs h
        obtain ⟨y20, hy20, h⟩ := bs h
        obtain ⟨g21, h⟩ := gs h
        refine At.sR [2, 3] [] [c0 2 (C_retraceref02_Sum (((strOfNums ([(wu8 p0.Kind)])) ++ y13) ++ p0.Data) y19 hy19), c0 3 (C_retraceref02_Bytes y19 y20 hy20), oT 4 g21] ?_
        obtain rfl := sq h
        exact At.ret (At.rR hR [])
theorem C_retraceref04_Joined (o0 : (List T_api_Frame)) (r : ByteArray × (List Int)) (h : F_retraceref04_Joined o0 = some r) : FnOK Tryz.prog 11 [.row 0 (o0).length] [.row 41 2 (encL T_api_Frame.enc o0)] (.tup [sv r.1, .row 1 (r.2).length]) [.row 41 2 (encL T_api_Frame.enc o0), .row 3 1 (encL (eInt .i64) r.2)] [0] := by
  refine fI Tryz.func11 rfl fun E gv R hR => ?_
  refine At.sR [0] [0, 1] [] ?_
  refine At.sR [0, 4] [0, 1] [] ?_
  refine At.sR [0, 4, 5] [0, 1] [] ?_
  refine At.seq ?_
  refine At.sR [0, 4, 5, 6] [0, 1] [] ?_
  refine At.block ?_
  refine At.nK (st' := ⟨[(0, .row 0 (o0).length), (4, sv (⟨#[]⟩ : ByteArray)), (5, .d (.list true 0 [])), (6, i64 0)], [.row 41 2 (encL T_api_Frame.enc o0), .ghost (gv 0) (.row 0 0)]⟩) [0, 4, 5, 6] [0, 1] ?_
  refine At.edNar [.ownS 5 3 1] [0, 4, 5, 6] [0, 1, 2] (st' := ⟨[(0, .row 0 (o0).length), (4, sv (⟨#[]⟩ : ByteArray)), (5, .row 2 ([] : List Int).length), (6, i64 0)], [.row 41 2 (encL T_api_Frame.enc o0), .ghost (gv 0) (.row 0 0), .row 3 1 (encL (eInt .i64) ([]))]⟩) (by kernel_rfl) ?_
  refine At.lp (fun s : (ByteArray × Int × (List Int)) => ⟨[(0, .row 0 (o0).length), (4, sv s.1), (5, .row 2 (s.2.2).length), (6, i64 s.2.1)], [.row 41 2 (encL T_api_Frame.enc o0), .ghost (gv 0) (.row 0 0), .row 3 1 (encL (eInt .i64) s.2.2)]⟩) h ?_
  rintro ⟨x24, x25, x26⟩ oo27 h f28
  replace h : F_retraceref04_Joined_L1 o0 x24 x25 x26 = some oo27 := h
  refine At.seq ?_
  refine At.sR [0, 4, 5, 6, 12] [0, 1, 2] [] ?_
  refine At.cd h (fun b30 h => ?_) (fun b30 h => ?_)
  · refine At.nR [0, 4, 5, 6] [0, 1, 2] ?_
    refine At.skip (norm ?_)
    refine At.seq ?_
    refine At.block ?_
    obtain ⟨g39, h⟩ := gs h
    refine At.sR [0, 4, 5, 6] [0, 1, 2] [aT (he_int .i64) 4 x26 ([(x24.size : Int)]) rfl g39] ?_
    obtain ⟨y42, hy42, h⟩ := bs h
    obtain ⟨y43, hy43, h⟩ := bs h
    refine At.sR [0, 4, 5, 6, 7] [0, 1, 2] [oT 2 (rEl hy42), tT 3 ({ orc := .cells [.int .i64 y42.Kind, .str y42.Data] }) (allc (rElC T_api_Frame.enc_len hy42 0 2 (by decide) (by rfl)) all0), c0 4 (C_retraceref04_Bytes y42 y43 hy43)] ?_
    obtain ⟨g44, h⟩ := gs h
    refine At.rG [0, 4, 5, 6] [0, 1, 2] [oT 2 g44] (norm ?_)
    exact At.rK [0, 4, 5, 6] [0, 1, 2] [] fun _ _ i => ⟨_, li h, i⟩
  · refine At.nR [4, 5] [0, 1, 2] ?_
    obtain ⟨r45, h, e46⟩ := mr h
    rw [f28 _ e46] at h
    refine At.exit (norm ?_)
    obtain ⟨g48, h⟩ := gs h
    refine At.sR [2, 3] [0, 1, 2] [aT (he_int .i64) 5 x26 ([(x24.size : Int)]) rfl g48] ?_
    obtain rfl := sq h
    exact At.ret (At.rR hR [0, 2])
theorem C_retraceref32_Bytes (p0 : T_api_Trace) (r : ByteArray) (h : F_retraceref32_Bytes p0 = some r) : FnOK Tryz.prog 18 [.agg (T_api_Trace.pvs p0)] [] (sv r) [] [] := by
  refine fI Tryz.func18 rfl fun E gv R hR => ?_
  refine At.sR [1] [0] [] ?_
  obtain ⟨y3, hy3, h⟩ := bs h
  obtain ⟨y4, hy4, h⟩ := bs h
  refine At.sR [3] [] [cT 1 0 [1] (C_retraceref32_Frames p0 y3 hy3), cT 2 1 [1, 2] (C_retraceref04_Joined y3 y4 hy4)] ?_
  refine At.sR [2] [] [] ?_
  obtain rfl := sq h
  exact At.ret (At.rR hR [])
theorem C_retraceref32_Get (p0 : ByteArray) (r : T_retraceref32_Got) (h : F_retraceref32_Get p0 = some r) : FnOK Tryz.prog 7 [sv p0] [] (.agg (T_retraceref32_Got.pvs r)) [] [] := by
  refine fI Tryz.func7 rfl fun E gv R hR => ?_
  refine At.sR [0, 2] [0] [] ?_
  obtain ⟨y2, hy2, h⟩ := bs h
  refine At.sR [0, 2, 3] [0, 1] [c0 1 (C_retraceref04_All p0 y2 hy2)] ?_
  refine At.seq ?_
  refine At.sR [0, 2, 3, 11] [0, 1] [] ?_
  refine At.cd h (fun b4 h => ?_) (fun b4 h => ?_)
  · refine At.sR [2] [0] [] ?_
    refine At.eN [.loO 0] [2] [0] ?_
    obtain rfl := sq h
    exact At.ret (At.rR hR [])
  · refine At.nR [0, 2, 3] [0, 1] ?_
    refine At.skip (norm ?_)
    obtain ⟨y6, hy6, h⟩ := bs h
    refine At.sR [0, 2, 3, 4, 6] [0, 1, 2] [c0 2 (C_retraceref32_Fold y2.L y6 hy6)] ?_
    refine At.seq ?_
    refine At.seq ?_
    refine At.rK (st' := ⟨[(0, sv p0), (2, .ptr 0 0), (3, .ptr 1 0), (4, .ptr 2 0), (6, i64 y6.2.2), (23, bo (y6.2.2 != 0))], [.blk 32 [u32 0, i64 0, i64 0, .d (.list true 0 []), .d (.list true 0 []), i64 0], .blk 46 (T_retraceref04_List.pvs y2), .blk 27 (T_api_Trace.pvs y6.1)]⟩) [0, 2, 3, 4, 6, 23] [0, 1, 2] [] (norm ?_)
    refine At.cd h (fun b8 h => ?_) (fun b8 h => ?_)
    · refine At.sR [2] [0] [] ?_
      refine At.eN [.loO 0] [2] [0] ?_
      obtain rfl := sq h
      exact At.ret (At.rR hR [])
    · refine At.nR [0, 2, 3, 4] [0, 1, 2] ?_
      refine At.skip (norm ?_)
      refine At.seq ?_
      refine At.seqJ (S := Bool) (fun s => ⟨[(0, sv p0), (2, .ptr 0 0), (4, .ptr 1 0), (41, bo s)], [.blk 32 [u32 0, i64 0, i64 0, .d (.list true 0 []), .d (.list true 0 []), i64 0], .blk 27 (T_api_Trace.pvs y6.1)]⟩) (fun s => F_retraceref32_Get_J1 p0 y6 s = some r) ?_ ?_
      · rcases cs h with ⟨b25, h⟩ | ⟨b25, h⟩
        · exact At.rK [0, 2, 4, 41] [0, 2] [bT 4 b25] fun _ _ i => ⟨true, h, i⟩
        · obtain ⟨y26, hy26, h⟩ := bs h
          exact At.rK [0, 2, 4, 41] [0, 2] [bT 4 b25, eT T_api_Frame.enc_len 11 hy26] fun _ _ i => ⟨(y26.Kind != 4), h, i⟩
      · intro x17 h
        refine At.cd h (fun b18 h => ?_) (fun b18 h => ?_)
        · refine At.sR [2] [0] [] ?_
          refine At.eN [.loO 0] [2] [0] ?_
          obtain rfl := sq h
          exact At.ret (At.rR hR [])
        · refine At.nR [0, 2, 4] [0, 1] ?_
          refine At.skip (norm ?_)
          refine At.seq ?_
          obtain ⟨y23, hy23, h⟩ := bs h
          refine At.sR [2, 4, 46] [0, 1] [c0 1 (C_retraceref32_Bytes y6.1 y23 hy23)] ?_
          refine At.cd h (fun b24 h => ?_) (fun b24 h => ?_)
          · refine At.sR [2] [0] [] ?_
            refine At.eN [.loO 0] [2] [0] ?_
            obtain rfl := sq h
            exact At.ret (At.rR hR [])
          · refine At.nR [2, 4] [0, 1] ?_
            refine At.skip (norm ?_)
            refine At.sR [2] [0] [] ?_
            obtain rfl := sq h
            exact At.ret (At.rR hR [])
theorem C_retraceref04_Right (p0 : (List T_api_Frame)) (r : Bool) (h : F_retraceref04_Right p0 = some r) : FnOK Tryz.prog 10 [lv T_api_Frame.enc p0] [] (bo r) [] [] := by
  refine fI Tryz.func10 rfl fun E gv R hR => ?_
  refine At.sR [0] [] [] ?_
  refine At.seq ?_
  refine At.sR [0, 3] [] [] ?_
  refine At.block ?_
  refine At.nK (st' := ⟨[(0, lv T_api_Frame.enc p0), (3, i64 0)], []⟩) [0, 3] [] ?_
  refine At.lp (fun s : (Int) => ⟨[(0, lv T_api_Frame.enc p0), (3, i64 s)], []⟩) h ?_
  intro x26 oo27 h f28
  replace h : F_retraceref04_Right_L2 p0 x26 = some oo27 := h
  refine At.seq ?_
  refine At.sR [0, 3, 7] [] [] ?_
  refine At.cd h (fun b30 h => ?_) (fun b30 h => ?_)
  · refine At.nR [0, 3] [] ?_
    refine At.skip (norm ?_)
    refine At.seq ?_
    refine At.block ?_
    refine At.seqJ (S := Bool) (fun s => ⟨[(0, lv T_api_Frame.enc p0), (3, i64 x26), (23, bo s)], []⟩) (fun s => F_retraceref04_Right_J1 x26 s = some oo27) ?_ ?_
    · obtain ⟨y46, hy46, h⟩ := bs h
      rcases cs h with ⟨b47, h⟩ | ⟨b47, h⟩
      · exact At.rK [0, 3, 23] [] [eT T_api_Frame.enc_len 2 hy46, bT 6 b47] fun _ _ i => ⟨true, h, i⟩
      · obtain ⟨y48, hy48, h⟩ := bs h
        exact At.rK [0, 3, 23] [] [eT T_api_Frame.enc_len 2 hy46, bT 6 b47, eT T_api_Frame.enc_len 9 hy48] fun _ _ i => ⟨(decide (255 < y48.Kind)), h, i⟩
    · intro x42 h
      refine At.cd h (fun b43 h => ?_) (fun b43 h => ?_)
      · refine At.sR [2] [] [] ?_
        obtain ⟨r44, h, e45⟩ := mr h
        rw [f28 _ e45] at h
        obtain rfl := sq h
        exact At.ret (At.rR hR [])
      · refine At.nR [0, 3] [] ?_
        refine At.skip (norm ?_)
        exact At.rK [0, 3] [] [] fun _ _ i => ⟨_, li h, i⟩
  · refine At.nR [] [] ?_
    obtain ⟨r49, h, e50⟩ := mr h
    rw [f28 _ e50] at h
    refine At.exit (norm ?_)
    refine At.sR [2] [] [] ?_
    obtain rfl := sq h
    exact At.ret (At.rR hR [])
theorem C_retraceref04_Joined_v2 (p0 : (List T_api_Frame)) (r : ByteArray × (List Int)) (h : F_retraceref04_Joined_v2 p0 = some r) : FnOK Tryz.prog 11 [lv T_api_Frame.enc p0] [] (.tup [sv r.1, .row 0 (r.2).length]) [.row 3 1 (encL (eInt .i64) r.2)] [] := by
  refine fI Tryz.func11 rfl fun E gv R hR => ?_
  refine At.sR [0] [] [] ?_
  refine At.sR [0, 4] [] [] ?_
  refine At.sR [0, 4, 5] [] [] ?_
  refine At.seq ?_
  refine At.sR [0, 4, 5, 6] [] [] ?_
  refine At.block ?_
  refine At.nK (st' := ⟨[(0, lv T_api_Frame.enc p0), (4, sv (⟨#[]⟩ : ByteArray)), (5, .d (.list true 0 [])), (6, i64 0)], []⟩) [0, 4, 5, 6] [] ?_
  refine At.edNar [.ownS 5 3 1] [0, 4, 5, 6] [0] (st' := ⟨[(0, lv T_api_Frame.enc p0), (4, sv (⟨#[]⟩ : ByteArray)), (5, .row 0 ([] : List Int).length), (6, i64 0)], [.row 3 1 (encL (eInt .i64) ([]))]⟩) (by kernel_rfl) ?_
  refine At.lp (fun s : (ByteArray × Int × (List Int)) => ⟨[(0, lv T_api_Frame.enc p0), (4, sv s.1), (5, .row 0 (s.2.2).length), (6, i64 s.2.1)], [.row 3 1 (encL (eInt .i64) s.2.2)]⟩) h ?_
  rintro ⟨x24, x25, x26⟩ oo27 h f28
  replace h : F_retraceref04_Joined_v2_L1 p0 x24 x25 x26 = some oo27 := h
  refine At.seq ?_
  refine At.sR [0, 4, 5, 6, 12] [0] [] ?_
  refine At.cd h (fun b30 h => ?_) (fun b30 h => ?_)
  · refine At.nR [0, 4, 5, 6] [0] ?_
    refine At.skip (norm ?_)
    refine At.seq ?_
    refine At.block ?_
    obtain ⟨g39, h⟩ := gs h
    refine At.sR [0, 4, 5, 6] [0] [aT (he_int .i64) 4 x26 ([(x24.size : Int)]) rfl g39] ?_
    obtain ⟨y42, hy42, h⟩ := bs h
    obtain ⟨y43, hy43, h⟩ := bs h
    refine At.sR [0, 4, 5, 6, 7] [0] [eT T_api_Frame.enc_len 2 hy42, c0 4 (C_retraceref04_Bytes y42 y43 hy43)] ?_
    obtain ⟨g44, h⟩ := gs h
    refine At.rG [0, 4, 5, 6] [0] [oT 2 g44] (norm ?_)
    exact At.rK [0, 4, 5, 6] [0] [] fun _ _ i => ⟨_, li h, i⟩
  · refine At.nR [4, 5] [0] ?_
    obtain ⟨r45, h, e46⟩ := mr h
    rw [f28 _ e46] at h
    refine At.exit (norm ?_)
    obtain ⟨g48, h⟩ := gs h
    refine At.sR [2, 3] [0] [aT (he_int .i64) 5 x26 ([(x24.size : Int)]) rfl g48] ?_
    obtain rfl := sq h
    exact At.ret (At.rR hR [0])
theorem C_retracelaw32_TraceFrames (p0 : (List T_api_Frame)) (r : Bool) (h : F_retracelaw32_TraceFrames p0 = some r) : FnOK Tryz.prog 4 [lv T_api_Frame.enc p0] [] (bo r) [] [] := by
  refine fI Tryz.func4 rfl fun E gv R hR => ?_
  refine At.sR [0] [] [] ?_
  refine At.seq ?_
  refine At.seqJ (S := Bool) (fun s => ⟨[(0, lv T_api_Frame.enc p0), (16, bo s)], []⟩) (fun s => F_retracelaw32_TraceFrames_J1 p0 s = some r) ?_ ?_
  · rcases cs h with ⟨b68, h⟩ | ⟨b68, h⟩
    · exact At.rK [0, 16] [] [bT 3 b68] fun _ _ i => ⟨true, h, i⟩
    · obtain ⟨y69, hy69, h⟩ := bs h
      exact At.rK [0, 16] [] [bT 3 b68, c0 5 (C_retraceref04_Right p0 y69 hy69)] fun _ _ i => ⟨(!y69), h, i⟩
  · intro x11 h
    refine At.cd h (fun b12 h => ?_) (fun b12 h => ?_)
    · obtain ⟨y14, hy14, h⟩ := bs h
      refine At.sR [2] [] [c0 0 (C_retracelaw32_live y14 hy14)] ?_
      obtain rfl := sq h
      exact At.ret (At.rR hR [])
    · refine At.nR [0] [] ?_
      refine At.skip (norm ?_)
      refine At.seq ?_
      refine At.sR [0, 3] [] [] ?_
      refine At.block ?_
      refine At.nK (st' := ⟨[(0, lv T_api_Frame.enc p0), (3, i64 0)], []⟩) [0, 3] [] ?_
      refine At.lp (fun s : (Int) => ⟨[(0, lv T_api_Frame.enc p0), (3, i64 s)], []⟩) h ?_
      intro x34 oo35 h f36
      replace h : F_retracelaw32_TraceFrames_L3 p0 x34 = some oo35 := h
      refine At.seq ?_
      refine At.sR [0, 3, 21] [] [] ?_
      refine At.cd h (fun b38 h => ?_) (fun b38 h => ?_)
      · refine At.nR [0, 3] [] ?_
        refine At.skip (norm ?_)
        refine At.seq ?_
        refine At.block ?_
        obtain ⟨y45, hy45, h⟩ := bs h
        refine At.sR [0, 3, 30] [] [eT T_api_Frame.enc_len 2 hy45] ?_
        refine At.cd h (fun b46 h => ?_) (fun b46 h => ?_)
        · obtain ⟨y48, hy48, h⟩ := bs h
          refine At.sR [2] [] [c0 0 (C_retracelaw32_live y48 hy48)] ?_
          obtain ⟨r49, h, e50⟩ := mr h
          rw [f36 _ e50] at h
          obtain rfl := sq h
          exact At.ret (At.rR hR [])
        · refine At.nR [0, 3] [] ?_
          refine At.skip (norm ?_)
          exact At.rK [0, 3] [] [] fun _ _ i => ⟨_, li h, i⟩
      · refine At.nR [0] [] ?_
        obtain ⟨r51, h, e52⟩ := mr h
        rw [f36 _ e52] at h
        refine At.exit (norm ?_)
        obtain ⟨y54, hy54, h⟩ := bs h
        refine At.sR [4] [] [cT 1 0 [0] (C_retraceref04_Joined_v2 p0 y54 hy54)] ?_
        obtain ⟨y56, hy56, h⟩ := bs h
        refine At.sR [4, 6, 7] [0] [c0 1 (C_trace_Get y54.1 y56 hy56)] ?_
        obtain ⟨y58, hy58, h⟩ := bs h
        refine At.sR [6, 7, 8] [0, 1] [c0 1 (C_retraceref32_Get y54.1 y58 hy58)] ?_
        refine At.seqJ (S := Bool) (fun s => ⟨[(2, bo s)], []⟩) (fun s => F_retracelaw32_TraceFrames_J2 s = some r) ?_ ?_
        · obtain ⟨y64, hy64, h⟩ := bs h
          rcases cs h with ⟨b65, h⟩ | ⟨b65, h⟩
          · rcases cs h with ⟨b66, h⟩ | ⟨b66, h⟩
            · obtain ⟨y67, hy67, h⟩ := bs h
              exact At.rK [2] [] [c0 3 (C_retraceref32_Same y56.1 y58.T y64 hy64), bT 4 b65, bT 10 b66, c0 11 (C_retracelaw32_live y67 hy67)] fun _ _ i => ⟨y67, h, i⟩
            · exact At.rK [2] [] [c0 3 (C_retraceref32_Same y56.1 y58.T y64 hy64), bT 4 b65, bT 10 b66] fun _ _ i => ⟨false, h, i⟩
          · exact At.rK [2] [] [c0 3 (C_retraceref32_Same y56.1 y58.T y64 hy64), bT 4 b65] fun _ _ i => ⟨false, h, i⟩
        · intro x63 h
          obtain rfl := sq h
          exact At.ret (At.rR hR [])
end Go.Ab
