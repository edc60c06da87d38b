/- GIC -/
import Derived.Test.YtjdkbdiagjlaiaaGreatGI1
namespace Go.Ab
open Go.Proofs
set_option linter.unusedVariables false
set_option maxRecDepth 100000
theorem C_retraceref20_Settle (p0 : T_api_Code) (p1 : Int) (r : Int) (h : F_retraceref20_Settle p0 p1 = some r) : FnOK Tryz.prog 128 [.agg (T_api_Code.pvs p0), i64 p1] [] (i64 r) [] [] := by
  refine fI Tryz.func128 rfl fun E gv R hR => ?_
  refine At.sR [1, 2] [0] [] ?_
  refine At.sR [1, 2, 5] [0] [] ?_
  refine At.seq ?_
  refine At.sR [1, 2, 5, 6] [0] [] ?_
  refine At.block ?_
  refine At.nK (st' := ⟨[(1, i64 p1), (2, .ptr 0 0), (5, i64 p1), (6, i64 0)], [.blk 27 (T_api_Code.pvs p0)]⟩) [1, 2, 5, 6] [0] ?_
  refine At.lp (fun s : (Int × Int) => ⟨[(1, i64 p1), (2, .ptr 0 0), (5, i64 s.1), (6, i64 s.2)], [.blk 27 (T_api_Code.pvs p0)]⟩) h ?_
  rintro ⟨x45, x46⟩ oo47 h f48
  replace h : F_retraceref20_Settle_L2 p0 p1 x45 x46 = some oo47 := h
  refine At.seq ?_
  refine At.sR [1, 2, 5, 6, 12] [0] [] ?_
  refine At.cd h (fun b50 h => ?_) (fun b50 h => ?_)
  · refine At.nR [1, 2, 5, 6] [0] ?_
    refine At.skip (norm ?_)
    refine At.seq ?_
    refine At.block ?_
    refine At.seq ?_
    refine At.seqJ (S := Bool) (fun s => ⟨[(1, i64 p1), (2, .ptr 0 0), (5, i64 x45), (6, i64 x46), (32, bo s)], [.blk 27 (T_api_Code.pvs p0)]⟩) (fun s => F_retraceref20_Settle_J1 p0 x45 x46 s = some oo47) ?_ ?_
    · rcases cs h with ⟨b84, h⟩ | ⟨b84, h⟩
      · exact At.rK [1, 2, 5, 6, 32] [0] [bT 2 b84] fun _ _ i => ⟨true, h, i⟩
      · rcases cs h with ⟨b85, h⟩ | ⟨b85, h⟩
        · exact At.rK [1, 2, 5, 6, 32] [0] [bT 2 b84, bT 9 b85] fun _ _ i => ⟨true, h, i⟩
        · obtain ⟨y86, hy86, h⟩ := bs h
          exact At.rK [1, 2, 5, 6, 32] [0] [bT 2 b84, bT 9 b85, eT T_api_Ins.enc_len 13 hy86] fun _ _ i => ⟨(y86.Op != 6), h, i⟩
    · intro x79 h
      refine At.cd h (fun b80 h => ?_) (fun b80 h => ?_)
      · refine At.sR [4] [] [] ?_
        obtain ⟨r81, h, e82⟩ := mr h
        rw [f48 _ e82] at h
        obtain rfl := sq h
        exact At.ret (At.rR hR [])
      · refine At.nR [1, 2, 5, 6] [0] ?_
        refine At.skip (norm ?_)
        obtain ⟨y83, hy83, h⟩ := bs h
        refine At.rG [1, 2, 5, 6] [0] [eT T_api_Ins.enc_len 3 hy83] (norm ?_)
        exact At.rK [1, 2, 5, 6] [0] [] fun _ _ i => ⟨_, li h, i⟩
  · refine At.nR [1] [] ?_
    obtain ⟨r87, h, e88⟩ := mr h
    rw [f48 _ e88] at h
    refine At.exit (norm ?_)
    refine At.sR [4] [] [] ?_
    obtain rfl := sq h
    exact At.ret (At.rR hR [])
theorem C_retraceref20_rests (p0 : T_api_Code) (p1 : Int) (p2 : Int) (r : Bool) (h : F_retraceref20_rests p0 p1 p2 = some r) : FnOK Tryz.prog 83 [.agg (T_api_Code.pvs p0), i64 p1, i64 p2] [] (bo r) [] [] := by
  refine fI Tryz.func83 rfl fun E gv R hR => ?_
  refine At.sR [1, 2, 3] [0] [] ?_
  obtain ⟨y2, hy2, h⟩ := bs h
  refine At.sR [1, 2, 3] [0] [c0 2 (C_retraceref20_Settle p0 p2 y2 hy2)] ?_
  refine At.seqJ (S := Bool) (fun s => ⟨[(6, bo s)], []⟩) (fun s => F_retraceref20_rests_J1 s = some r) ?_ ?_
  · obtain ⟨y11, hy11, h⟩ := bs h
    rcases cs h with ⟨b12, h⟩ | ⟨b12, h⟩
    · obtain ⟨y13, hy13, h⟩ := bs h
      rcases cs h with ⟨b14, h⟩ | ⟨b14, h⟩
      · obtain ⟨y15, hy15, h⟩ := bs h
        rcases cs h with ⟨b16, h⟩ | ⟨b16, h⟩
        · exact At.rK [6] [] [eT T_api_Def.enc_len 4 hy11, bT 8 b12, c0 12 (C_retraceref20_To p0 p1 y13 hy13), bT 15 b14, eT T_api_Ins.enc_len 19 hy15, bT 23 b16] fun _ _ i => ⟨true, h, i⟩
        · obtain ⟨y17, hy17, h⟩ := bs h
          exact At.rK [6] [] [eT T_api_Def.enc_len 4 hy11, bT 8 b12, c0 12 (C_retraceref20_To p0 p1 y13 hy13), bT 15 b14, eT T_api_Ins.enc_len 19 hy15, bT 23 b16, eT T_api_Ins.enc_len 27 hy17] fun _ _ i => ⟨(y17.Op == 24), h, i⟩
      · exact At.rK [6] [] [eT T_api_Def.enc_len 4 hy11, bT 8 b12, c0 12 (C_retraceref20_To p0 p1 y13 hy13), bT 15 b14] fun _ _ i => ⟨false, h, i⟩
    · exact At.rK [6] [] [eT T_api_Def.enc_len 4 hy11, bT 8 b12] fun _ _ i => ⟨false, h, i⟩
  · intro x10 h
    obtain rfl := sq h
    exact At.ret (At.rR hR [])
theorem C_retraceref20_Acts (p0 : Int) (r : Bool) (h : F_retraceref20_Acts p0 = some r) : FnOK Tryz.prog 84 [i64 p0] [] (bo r) [] [] := by
  refine fI Tryz.func84 rfl fun E gv R hR => ?_
  refine At.sR [0] [] [] ?_
  refine At.seqJ (S := Bool) (fun s => ⟨[(2, bo s)], []⟩) (fun s => F_retraceref20_Acts_J1 s = some r) ?_ ?_
  · rcases cs h with ⟨b6, h⟩ | ⟨b6, h⟩
    · exact At.rK [2] [] [bT 2 b6] fun _ _ i => ⟨true, h, i⟩
    · rcases cs h with ⟨b7, h⟩ | ⟨b7, h⟩
      · exact At.rK [2] [] [bT 2 b6, bT 6 b7] fun _ _ i => ⟨true, h, i⟩
      · rcases cs h with ⟨b8, h⟩ | ⟨b8, h⟩
        · exact At.rK [2] [] [bT 2 b6, bT 6 b7, bT 10 b8] fun _ _ i => ⟨true, h, i⟩
        · rcases cs h with ⟨b9, h⟩ | ⟨b9, h⟩
          · exact At.rK [2] [] [bT 2 b6, bT 6 b7, bT 10 b8, bT 13 b9] fun _ _ i => ⟨(decide (p0 ≤ 17)), h, i⟩
          · exact At.rK [2] [] [bT 2 b6, bT 6 b7, bT 10 b8, bT 13 b9] fun _ _ i => ⟨false, h, i⟩
  · intro x5 h
    obtain rfl := sq h
    exact At.ret (At.rR hR [])
theorem C_retraceref20_may (p0 : T_api_Code) (p1 : Int) (p2 : Int) (p3 : Int) (r : Bool) (h : F_retraceref20_may p0 p1 p2 p3 = some r) : FnOK Tryz.prog 43 [.agg (T_api_Code.pvs p0), i64 p1, i64 p2, i64 p3] [] (bo r) [] [] := by
  refine fI Tryz.func43 rfl fun E gv R hR => ?_
  refine At.sR [1, 2, 3, 4] [0] [] ?_
  obtain ⟨y4, hy4, h⟩ := bs h
  obtain ⟨y5, hy5, h⟩ := bs h
  obtain ⟨y6, hy6, h⟩ := bs h
  refine At.sD 1 [1, 2, 3, 4, 9, 10, 11] [0, 1] [eT T_api_Ins.enc_len 3 hy4, eT T_api_Def.enc_len 8 hy5, c0 13 (C_retraceref20_To p0 p1 y6 hy6)] ?_
  refine At.seq ?_
  refine At.seqJ (S := Bool) (fun s => ⟨[(1, i64 p1), (2, i64 p2), (3, i64 p3), (4, .ptr 0 0), (9, .ptr 1 0), (10, i64 y5.Entry), (11, i64 y6), (53, bo s)], [.blk 27 (T_api_Code.pvs p0), .blk 84 (T_api_Ins.pvs y4)]⟩) (fun s => F_retraceref20_may_J1 p0 p1 p2 p3 y4 y5 y6 s = some r) ?_ ?_
  · obtain ⟨y183, hy183, h⟩ := bs h
    rcases cs h with ⟨b184, h⟩ | ⟨b184, h⟩
    · exact At.rK [1, 2, 3, 4, 9, 10, 11, 53] [0, 1] [c0 1 (C_retraceref16_Right y4 y183 hy183), bT 3 b184] fun _ _ i => ⟨true, h, i⟩
    · rcases cs h with ⟨b185, h⟩ | ⟨b185, h⟩
      · rcases cs h with ⟨b186, h⟩ | ⟨b186, h⟩
        · exact At.rK [1, 2, 3, 4, 9, 10, 11, 53] [0, 1] [c0 1 (C_retraceref16_Right y4 y183 hy183), bT 3 b184, bT 7 b185, bT 14 b186] fun _ _ i => ⟨true, h, i⟩
        · rcases cs h with ⟨b187, h⟩ | ⟨b187, h⟩
          · exact At.rK [1, 2, 3, 4, 9, 10, 11, 53] [0, 1] [c0 1 (C_retraceref16_Right y4 y183 hy183), bT 3 b184, bT 7 b185, bT 14 b186, bT 18 b187] fun _ _ i => ⟨(p2 == (w64 (y6 - 1))), h, i⟩
          · exact At.rK [1, 2, 3, 4, 9, 10, 11, 53] [0, 1] [c0 1 (C_retraceref16_Right y4 y183 hy183), bT 3 b184, bT 7 b185, bT 14 b186, bT 18 b187] fun _ _ i => ⟨false, h, i⟩
      · rcases cs h with ⟨b188, h⟩ | ⟨b188, h⟩
        · exact At.rK [1, 2, 3, 4, 9, 10, 11, 53] [0, 1] [c0 1 (C_retraceref16_Right y4 y183 hy183), bT 3 b184, bT 7 b185, bT 18 b188] fun _ _ i => ⟨(p2 == (w64 (y6 - 1))), h, i⟩
        · exact At.rK [1, 2, 3, 4, 9, 10, 11, 53] [0, 1] [c0 1 (C_retraceref16_Right y4 y183 hy183), bT 3 b184, bT 7 b185, bT 18 b188] fun _ _ i => ⟨false, h, i⟩
  · intro x27 h
    refine At.cd h (fun b28 h => ?_) (fun b28 h => ?_)
    · refine At.sR [8] [] [] ?_
      obtain rfl := sq h
      exact At.ret (At.rR hR [])
    · refine At.nR [1, 2, 3, 4, 9, 10, 11] [0, 1] ?_
      refine At.skip (norm ?_)
      refine At.seq ?_
      refine At.seqJ (S := Bool) (fun s => ⟨[(1, i64 p1), (2, i64 p2), (4, .ptr 0 0), (9, .ptr 1 0), (10, i64 y5.Entry), (11, i64 y6), (77, bo s)], [.blk 27 (T_api_Code.pvs p0), .blk 84 (T_api_Ins.pvs y4)]⟩) (fun s => F_retraceref20_may_J2 p0 p1 p2 y4 y5 y6 s = some r) ?_ ?_
      · rcases cs h with ⟨b177, h⟩ | ⟨b177, h⟩
        · rcases cs h with ⟨b178, h⟩ | ⟨b178, h⟩
          · rcases cs h with ⟨b179, h⟩ | ⟨b179, h⟩
            · exact At.rK [1, 2, 4, 9, 10, 11, 77] [0, 1] [bT 3 b177, bT 8 b178, bT 13 b179] fun _ _ i => ⟨true, h, i⟩
            · rcases cs h with ⟨b180, h⟩ | ⟨b180, h⟩
              · exact At.rK [1, 2, 4, 9, 10, 11, 77] [0, 1] [bT 3 b177, bT 8 b178, bT 13 b179, bT 17 b180] fun _ _ i => ⟨(y4.A != p3), h, i⟩
              · exact At.rK [1, 2, 4, 9, 10, 11, 77] [0, 1] [bT 3 b177, bT 8 b178, bT 13 b179, bT 17 b180] fun _ _ i => ⟨false, h, i⟩
          · rcases cs h with ⟨b181, h⟩ | ⟨b181, h⟩
            · exact At.rK [1, 2, 4, 9, 10, 11, 77] [0, 1] [bT 3 b177, bT 8 b178, bT 17 b181] fun _ _ i => ⟨(y4.A != p3), h, i⟩
            · exact At.rK [1, 2, 4, 9, 10, 11, 77] [0, 1] [bT 3 b177, bT 8 b178, bT 17 b181] fun _ _ i => ⟨false, h, i⟩
        · rcases cs h with ⟨b182, h⟩ | ⟨b182, h⟩
          · exact At.rK [1, 2, 4, 9, 10, 11, 77] [0, 1] [bT 3 b177, bT 17 b182] fun _ _ i => ⟨(y4.A != p3), h, i⟩
          · exact At.rK [1, 2, 4, 9, 10, 11, 77] [0, 1] [bT 3 b177, bT 17 b182] fun _ _ i => ⟨false, h, i⟩
      · intro x49 h
        refine At.cd h (fun b50 h => ?_) (fun b50 h => ?_)
        · refine At.sR [8] [] [] ?_
          obtain rfl := sq h
          exact At.ret (At.rR hR [])
        · refine At.nR [1, 2, 4, 9, 10, 11] [0, 1] ?_
          refine At.skip (norm ?_)
          refine At.seqJ (S := Bool) (fun s => ⟨[(1, i64 p1), (2, i64 p2), (4, .ptr 0 0), (9, .ptr 1 0), (10, i64 y5.Entry), (11, i64 y6), (12, bo s)], [.blk 27 (T_api_Code.pvs p0), .blk 84 (T_api_Ins.pvs y4)]⟩) (fun s => F_retraceref20_may_J3 p0 p1 p2 y4 y5 y6 s = some r) ?_ ?_
          · rcases cs h with ⟨b173, h⟩ | ⟨b173, h⟩
            · exact At.rK [1, 2, 4, 9, 10, 11, 12] [0, 1] [bT 3 b173] fun _ _ i => ⟨true, h, i⟩
            · rcases cs h with ⟨b174, h⟩ | ⟨b174, h⟩
              · exact At.rK [1, 2, 4, 9, 10, 11, 12] [0, 1] [bT 3 b173, bT 8 b174] fun _ _ i => ⟨true, h, i⟩
              · rcases cs h with ⟨b175, h⟩ | ⟨b175, h⟩
                · exact At.rK [1, 2, 4, 9, 10, 11, 12] [0, 1] [bT 3 b173, bT 8 b174, bT 13 b175] fun _ _ i => ⟨true, h, i⟩
                · rcases cs h with ⟨b176, h⟩ | ⟨b176, h⟩
                  · exact At.rK [1, 2, 4, 9, 10, 11, 12] [0, 1] [bT 3 b173, bT 8 b174, bT 13 b175, bT 18 b176] fun _ _ i => ⟨true, h, i⟩
                  · exact At.rK [1, 2, 4, 9, 10, 11, 12] [0, 1] [bT 3 b173, bT 8 b174, bT 13 b175, bT 18 b176] fun _ _ i => ⟨(y4.Op == 19), h, i⟩
          · intro x55 h
            refine At.seq ?_
            refine At.seqJ (S := Bool) (fun s => ⟨[(1, i64 p1), (2, i64 p2), (4, .ptr 0 0), (9, .ptr 1 0), (10, i64 y5.Entry), (11, i64 y6), (131, bo s)], [.blk 27 (T_api_Code.pvs p0), .blk 84 (T_api_Ins.pvs y4)]⟩) (fun s => F_retraceref20_may_J4 p0 p1 p2 y4 y5 y6 s = some r) ?_ ?_
            · rcases cs h with ⟨b165, h⟩ | ⟨b165, h⟩
              · rcases cs h with ⟨b166, h⟩ | ⟨b166, h⟩
                · exact At.dK 0 [1, 2, 4, 9, 10, 11, 131] [0, 1] [bT 1 b165, bT 5 b166] fun _ _ i => ⟨true, h, i⟩
                · obtain ⟨y167, hy167, h⟩ := bs h
                  rcases cs h with ⟨b168, h⟩ | ⟨b168, h⟩
                  · exact At.dK 0 [1, 2, 4, 9, 10, 11, 131] [0, 1] [bT 1 b165, bT 5 b166, eT T_api_Def.enc_len 11 hy167, bT 17 b168] fun _ _ i => ⟨true, h, i⟩
                  · rcases cs h with ⟨b169, h⟩ | ⟨b169, h⟩
                    · obtain ⟨y170, hy170, h⟩ := bs h
                      exact At.dK 0 [1, 2, 4, 9, 10, 11, 131] [0, 1] [bT 1 b165, bT 5 b166, eT T_api_Def.enc_len 11 hy167, bT 17 b168, bT 21 b169, c0 27 (C_retraceref20_channel p0 y4.A y4.B y170 hy170)] fun _ _ i => ⟨(!y170), h, i⟩
                    · exact At.dK 0 [1, 2, 4, 9, 10, 11, 131] [0, 1] [bT 1 b165, bT 5 b166, eT T_api_Def.enc_len 11 hy167, bT 17 b168, bT 21 b169] fun _ _ i => ⟨false, h, i⟩
              · rcases cs h with ⟨b171, h⟩ | ⟨b171, h⟩
                · obtain ⟨y172, hy172, h⟩ := bs h
                  exact At.dK 0 [1, 2, 4, 9, 10, 11, 131] [0, 1] [bT 1 b165, bT 21 b171, c0 27 (C_retraceref20_channel p0 y4.A y4.B y172 hy172)] fun _ _ i => ⟨(!y172), h, i⟩
                · exact At.dK 0 [1, 2, 4, 9, 10, 11, 131] [0, 1] [bT 1 b165, bT 21 b171] fun _ _ i => ⟨false, h, i⟩
            · intro x82 h
              refine At.cd h (fun b83 h => ?_) (fun b83 h => ?_)
              · refine At.sR [8] [] [] ?_
                obtain rfl := sq h
                exact At.ret (At.rR hR [])
              · refine At.nR [1, 2, 4, 9, 10, 11] [0, 1] ?_
                refine At.skip (norm ?_)
                refine At.seq ?_
                refine At.seqJ (S := Bool) (fun s => ⟨[(1, i64 p1), (2, i64 p2), (4, .ptr 0 0), (9, .ptr 1 0), (10, i64 y5.Entry), (11, i64 y6), (159, bo s)], [.blk 27 (T_api_Code.pvs p0), .blk 84 (T_api_Ins.pvs y4)]⟩) (fun s => F_retraceref20_may_J5 p0 p1 p2 y4 y5 y6 s = some r) ?_ ?_
                · rcases cs h with ⟨b161, h⟩ | ⟨b161, h⟩
                  · rcases cs h with ⟨b162, h⟩ | ⟨b162, h⟩
                    · exact At.dK 0 [1, 2, 4, 9, 10, 11, 159] [0, 1] [bT 3 b161, bT 7 b162] fun _ _ i => ⟨true, h, i⟩
                    · rcases cs h with ⟨b163, h⟩ | ⟨b163, h⟩
                      · exact At.dK 0 [1, 2, 4, 9, 10, 11, 159] [0, 1] [bT 3 b161, bT 7 b162, bT 15 b163] fun _ _ i => ⟨true, h, i⟩
                      · obtain ⟨y164, hy164, h⟩ := bs h
                        exact At.dK 0 [1, 2, 4, 9, 10, 11, 159] [0, 1] [bT 3 b161, bT 7 b162, bT 15 b163, eT T_api_Def.enc_len 22 hy164] fun _ _ i => ⟨(y4.B != y164.Params), h, i⟩
                  · exact At.dK 0 [1, 2, 4, 9, 10, 11, 159] [0, 1] [bT 3 b161] fun _ _ i => ⟨false, h, i⟩
                · intro x98 h
                  refine At.cd h (fun b99 h => ?_) (fun b99 h => ?_)
                  · refine At.sR [8] [] [] ?_
                    obtain rfl := sq h
                    exact At.ret (At.rR hR [])
                  · refine At.nR [1, 2, 4, 9, 10, 11] [0, 1] ?_
                    refine At.skip (norm ?_)
                    refine At.seqJ (S := Unit) (fun s => ⟨[(1, i64 p1), (2, i64 p2), (4, .ptr 0 0), (9, .ptr 1 0)], [.blk 27 (T_api_Code.pvs p0), .blk 84 (T_api_Ins.pvs y4)]⟩) (fun s => F_retraceref20_may_J6 p0 p1 p2 y4 = some r) ?_ ?_
                    · obtain ⟨y135, hy135, h⟩ := bs h
                      refine At.sR [1, 2, 4, 9, 10, 11, 13, 14] [0, 1] [c0 1 (C_retraceref20_target y4 y135 hy135)] ?_
                      refine At.sR [1, 2, 4, 9, 10, 11, 13, 165] [0, 1] [] ?_
                      refine At.cd h (fun b136 h => ?_) (fun b136 h => ?_)
                      · refine At.seqJ (S := Bool) (fun s => ⟨[(1, i64 p1), (2, i64 p2), (4, .ptr 0 0), (9, .ptr 1 0), (199, bo s)], [.blk 27 (T_api_Code.pvs p0), .blk 84 (T_api_Ins.pvs y4)]⟩) (fun s => F_retraceref20_may_J8 p0 p1 p2 y4 s = some r) ?_ ?_
                        · rcases cs h with ⟨b150, h⟩ | ⟨b150, h⟩
                          · exact At.rK [1, 2, 4, 9, 199] [0, 1] [bT 3 b150] fun _ _ i => ⟨true, h, i⟩
                          · rcases cs h with ⟨b151, h⟩ | ⟨b151, h⟩
                            · exact At.rK [1, 2, 4, 9, 199] [0, 1] [bT 3 b150, bT 8 b151] fun _ _ i => ⟨true, h, i⟩
                            · rcases cs h with ⟨b152, h⟩ | ⟨b152, h⟩
                              · obtain ⟨y153, hy153, h⟩ := bs h
                                rcases cs h with ⟨b154, h⟩ | ⟨b154, h⟩
                                · exact At.rK [1, 2, 4, 9, 199] [0, 1] [bT 3 b150, bT 8 b151, bT 12 b152, eT T_api_Ins.enc_len 16 hy153, bT 22 b154] fun _ _ i => ⟨true, h, i⟩
                                · obtain ⟨y155, hy155, h⟩ := bs h
                                  rcases cs h with ⟨b156, h⟩ | ⟨b156, h⟩
                                  · obtain ⟨y157, hy157, h⟩ := bs h
                                    exact At.rK [1, 2, 4, 9, 199] [0, 1] [bT 3 b150, bT 8 b151, bT 12 b152, eT T_api_Ins.enc_len 16 hy153, bT 22 b154, c0 25 (C_retraceref20_Chooses y4.Op y155 hy155), bT 26 b156, c0 30 (C_retraceref20_rests p0 p1 y135.1 y157 hy157)] fun _ _ i => ⟨(!y157), h, i⟩
                                  · exact At.rK [1, 2, 4, 9, 199] [0, 1] [bT 3 b150, bT 8 b151, bT 12 b152, eT T_api_Ins.enc_len 16 hy153, bT 22 b154, c0 25 (C_retraceref20_Chooses y4.Op y155 hy155), bT 26 b156] fun _ _ i => ⟨false, h, i⟩
                              · obtain ⟨y158, hy158, h⟩ := bs h
                                rcases cs h with ⟨b159, h⟩ | ⟨b159, h⟩
                                · obtain ⟨y160, hy160, h⟩ := bs h
                                  exact At.rK [1, 2, 4, 9, 199] [0, 1] [bT 3 b150, bT 8 b151, bT 12 b152, c0 25 (C_retraceref20_Chooses y4.Op y158 hy158), bT 26 b159, c0 30 (C_retraceref20_rests p0 p1 y135.1 y160 hy160)] fun _ _ i => ⟨(!y160), h, i⟩
                                · exact At.rK [1, 2, 4, 9, 199] [0, 1] [bT 3 b150, bT 8 b151, bT 12 b152, c0 25 (C_retraceref20_Chooses y4.Op y158 hy158), bT 26 b159] fun _ _ i => ⟨false, h, i⟩
                        · intro x148 h
                          refine At.cd h (fun b149 h => ?_) (fun b149 h => ?_)
                          · refine At.sR [8] [] [] ?_
                            obtain rfl := sq h
                            exact At.ret (At.rR hR [])
                          · refine At.nR [1, 2, 4, 9] [0, 1] ?_
                            refine At.skip (fun _ _ i => ⟨(), h, i.en [] [1, 2, 4, 9] [0, 1]⟩)
                      · refine At.nR [1, 2, 4, 9] [0, 1] ?_
                        refine At.skip (fun _ _ i => ⟨(), h, i.en [] [1, 2, 4, 9] [0, 1]⟩)
                    · intro _ h
                      refine At.seqJ (S := Bool) (fun s => ⟨[(8, bo s)], []⟩) (fun s => F_retraceref20_may_J7 s = some r) ?_ ?_
                      · obtain ⟨y131, hy131, h⟩ := bs h
                        rcases cs h with ⟨b132, h⟩ | ⟨b132, h⟩
                        · exact At.rK [8] [] [c0 2 (C_retraceref20_Acts y4.Op y131 hy131), bT 4 b132] fun _ _ i => ⟨true, h, i⟩
                        · obtain ⟨y133, hy133, h⟩ := bs h
                          exact At.rK [8] [] [c0 2 (C_retraceref20_Acts y4.Op y131 hy131), bT 4 b132, c0 9 (C_retraceref20_rests p0 p1 (w64 (p2 + 1)) y133 hy133)] fun _ _ i => ⟨y133, h, i⟩
                      · intro x130 h
                        obtain rfl := sq h
                        exact At.ret (At.rR hR [])
theorem C_retraceref15_Wide (p0 : Int) (r : Int) (h : F_retraceref15_Wide p0 = some r) : FnOK Tryz.prog 129 [i64 p0] [] (i64 r) [] [] := by
  refine fI Tryz.func129 rfl fun E gv R hR => ?_
  refine At.sR [0] [] [] ?_
  refine At.seq ?_
  refine At.seqJ (S := Bool) (fun s => ⟨[(0, i64 p0), (8, bo s)], []⟩) (fun s => F_retraceref15_Wide_J1 p0 s = some r) ?_ ?_
  · rcases cs h with ⟨b16, h⟩ | ⟨b16, h⟩
    · exact At.rK [0, 8] [] [bT 2 b16] fun _ _ i => ⟨true, h, i⟩
    · exact At.rK [0, 8] [] [bT 2 b16] fun _ _ i => ⟨(p0 == 4), h, i⟩
  · intro x6 h
    refine At.cd h (fun b7 h => ?_) (fun b7 h => ?_)
    · refine At.sR [2] [] [] ?_
      obtain rfl := sq h
      exact At.ret (At.rR hR [])
    · refine At.nR [0] [] ?_
      refine At.skip (norm ?_)
      refine At.seq ?_
      refine At.seqJ (S := Bool) (fun s => ⟨[(14, bo s)], []⟩) (fun s => F_retraceref15_Wide_J2 s = some r) ?_ ?_
      · rcases cs h with ⟨b15, h⟩ | ⟨b15, h⟩
        · exact At.rK [14] [] [bT 2 b15] fun _ _ i => ⟨(decide (p0 ≤ 17)), h, i⟩
        · exact At.rK [14] [] [bT 2 b15] fun _ _ i => ⟨false, h, i⟩
      · intro x13 h
        refine At.cd h (fun b14 h => ?_) (fun b14 h => ?_)
        · refine At.sR [2] [] [] ?_
          obtain rfl := sq h
          exact At.ret (At.rR hR [])
        · refine At.nR [] [] ?_
          refine At.skip (norm ?_)
          refine At.sR [2] [] [] ?_
          obtain rfl := sq h
          exact At.ret (At.rR hR [])
theorem C_retraceref16_Takes (p0 : T_api_Ins) (r : Int) (h : F_retraceref16_Takes p0 = some r) : FnOK Tryz.prog 86 [.agg (T_api_Ins.pvs p0)] [] (i64 r) [] [] := by
  refine fI Tryz.func86 rfl fun E gv R hR => ?_
  refine At.sR [1] [0] [] ?_
  refine At.seq ?_
  obtain ⟨y5, hy5, h⟩ := bs h
  refine At.sR [1, 5] [0] [c0 1 (C_retraceref16_Right p0 y5 hy5)] ?_
  refine At.cd h (fun b6 h => ?_) (fun b6 h => ?_)
  · refine At.sR [2] [] [] ?_
    obtain rfl := sq h
    exact At.ret (At.rR hR [])
  · refine At.nR [1] [0] ?_
    refine At.skip (norm ?_)
    refine At.seqJ (S := Unit) (fun s => ⟨[], []⟩) (fun s => F_retraceref16_Takes_J1 = some r) ?_ ?_
    · refine At.sR [1, 7] [0] [] ?_
      refine At.block ?_
      refine At.sR [1, 7, 8] [0] [] ?_
      refine At.cd h (fun b37 h => ?_) (fun b37 h => ?_)
      · refine At.seq ?_
        obtain ⟨y39, hy39, h⟩ := bs h
        refine At.rK (st' := ⟨[(2, i64 y39)], []⟩) [2] [] [c0 2 (C_retraceref15_Wide p0.A y39 hy39)] (norm ?_)
        obtain rfl := sq h
        exact At.ret (At.rR hR [])
      · refine At.seq ?_
        refine At.rK (st' := ⟨[(1, .ptr 0 0), (7, i64 p0.Op), (13, bo (p0.Op == 14))], [.blk 84 (T_api_Ins.pvs p0)]⟩) [1, 7, 13] [0] [] (norm ?_)
        refine At.cd h (fun b40 h => ?_) (fun b40 h => ?_)
        · refine At.sR [2] [] [] ?_
          obtain rfl := sq h
          exact At.ret (At.rR hR [])
        · refine At.sR [1, 7, 17] [0] [] ?_
          refine At.cd h (fun b41 h => ?_) (fun b41 h => ?_)
          · refine At.sR [21] [] [] ?_
            refine At.cd h (fun b42 h => ?_) (fun b42 h => ?_)
            · refine At.sR [2] [] [] ?_
              obtain rfl := sq h
              exact At.ret (At.rR hR [])
            · refine At.nR [] [] ?_
              refine At.skip (fun _ _ i => ⟨(), h, i.en [] [] []⟩)
          · refine At.seqJ (S := Bool) (fun s => ⟨[(7, i64 p0.Op), (22, bo s)], []⟩) (fun s => F_retraceref16_Takes_J2 p0 s = some r) ?_ ?_
            · refine At.sR [7, 22] [] [] ?_
              refine At.cd h (fun b66 h => ?_) (fun b66 h => ?_)
              · refine At.skip (fun _ _ i => ⟨(p0.Op == 10), h, i.en [] [7, 22] []⟩)
              · exact At.rK [7, 22] [] [] fun _ _ i => ⟨(p0.Op == 20), h, i⟩
            · intro x44 h
              refine At.cd h (fun b45 h => ?_) (fun b45 h => ?_)
              · refine At.sR [2] [] [] ?_
                obtain rfl := sq h
                exact At.ret (At.rR hR [])
              · refine At.seqJ (S := Bool) (fun s => ⟨[(25, bo s)], []⟩) (fun s => F_retraceref16_Takes_J3 s = some r) ?_ ?_
                · refine At.sR [7, 25] [] [] ?_
                  refine At.cd h (fun b57 h => ?_) (fun b57 h => ?_)
                  · refine At.nR [25] [] ?_
                    refine At.skip (fun _ _ i => ⟨(p0.Op == 4), h, i.en [] [25] []⟩)
                  · refine At.sR [7, 25] [] [] ?_
                    refine At.cd h (fun b58 h => ?_) (fun b58 h => ?_)
                    · refine At.nR [25] [] ?_
                      refine At.skip (fun _ _ i => ⟨(p0.Op == 7), h, i.en [] [25] []⟩)
                    · refine At.sR [7, 25] [] [] ?_
                      refine At.cd h (fun b59 h => ?_) (fun b59 h => ?_)
                      · refine At.nR [25] [] ?_
                        refine At.skip (fun _ _ i => ⟨(p0.Op == 8), h, i.en [] [25] []⟩)
                      · refine At.sR [7, 25] [] [] ?_
                        refine At.cd h (fun b60 h => ?_) (fun b60 h => ?_)
                        · refine At.nR [25] [] ?_
                          refine At.skip (fun _ _ i => ⟨(p0.Op == 11), h, i.en [] [25] []⟩)
                        · refine At.sR [7, 25] [] [] ?_
                          refine At.cd h (fun b61 h => ?_) (fun b61 h => ?_)
                          · refine At.nK (st' := ⟨[(25, bo (p0.Op == 12))], []⟩) [25] [] ?_
                            refine At.skip (fun _ _ i => ⟨(p0.Op == 12), h, i⟩)
                          · refine At.seq ?_
                            refine At.rK (st' := ⟨[(7, i64 p0.Op), (25, bo (p0.Op == 13))], []⟩) [7, 25] [] [] (norm ?_)
                            refine At.cd h (fun b62 h => ?_) (fun b62 h => ?_)
                            · refine At.nR [25] [] ?_
                              refine At.skip (fun _ _ i => ⟨(p0.Op == 13), h, i.en [] [25] []⟩)
                            · refine At.sR [7, 25] [] [] ?_
                              refine At.cd h (fun b63 h => ?_) (fun b63 h => ?_)
                              · refine At.nR [25] [] ?_
                                refine At.skip (fun _ _ i => ⟨(p0.Op == 15), h, i.en [] [25] []⟩)
                              · refine At.sR [7, 25] [] [] ?_
                                refine At.cd h (fun b64 h => ?_) (fun b64 h => ?_)
                                · refine At.nR [25] [] ?_
                                  refine At.skip (fun _ _ i => ⟨(p0.Op == 16), h, i.en [] [25] []⟩)
                                · refine At.sR [7, 25] [] [] ?_
                                  refine At.cd h (fun b65 h => ?_) (fun b65 h => ?_)
                                  · refine At.nR [25] [] ?_
                                    refine At.skip (fun _ _ i => ⟨(p0.Op == 19), h, i.en [] [25] []⟩)
                                  · exact At.rK [25] [] [] fun _ _ i => ⟨(p0.Op == 21), h, i⟩
                · intro x55 h
                  refine At.cd h (fun b56 h => ?_) (fun b56 h => ?_)
                  · refine At.sR [2] [] [] ?_
                    obtain rfl := sq h
                    exact At.ret (At.rR hR [])
                  · refine At.nR [] [] ?_
                    refine At.skip (fun _ _ i => ⟨(), h, i.en [] [] []⟩)
    · intro _ h
      refine At.sR [2] [] [] ?_
      obtain rfl := sq h
      exact At.ret (At.rR hR [])
theorem C_retraceref20_fits (p0 : T_api_Ins) (p1 : T_retraceref20_Is) (r : Bool) (h : F_retraceref20_fits p0 p1 = some r) : FnOK Tryz.prog 85 [.agg (T_api_Ins.pvs p0), .agg (T_retraceref20_Is.pvs p1)] [] (bo r) [] [] := by
  refine fI Tryz.func85 rfl fun E gv R hR => ?_
  refine At.sR [2, 3] [0, 1] [] ?_
  obtain ⟨y2, hy2, h⟩ := bs h
  refine At.sD 0 [2, 3, 5] [0, 1] [c0 3 (C_retraceref16_Takes p0 y2 hy2)] ?_
  refine At.seq ?_
  refine At.sR [2, 3, 5, 12] [0, 1] [] ?_
  refine At.cd h (fun b4 h => ?_) (fun b4 h => ?_)
  · refine At.sR [4] [] [] ?_
    obtain rfl := sq h
    exact At.ret (At.rR hR [])
  · refine At.nR [2, 3, 5] [0, 1] ?_
    refine At.skip (norm ?_)
    refine At.seq ?_
    refine At.seqJ (S := Bool) (fun s => ⟨[(2, .ptr 0 0), (3, .ptr 1 0), (5, i64 (w64 (p1.N - y2))), (25, bo s)], [.blk 84 (T_api_Ins.pvs p0), .blk 137 (T_retraceref20_Is.pvs p1)]⟩) (fun s => F_retraceref20_fits_J1 p0 p1 y2 s = some r) ?_ ?_
    · rcases cs h with ⟨b59, h⟩ | ⟨b59, h⟩
      · exact At.rK [2, 3, 5, 25] [0, 1] [bT 3 b59] fun _ _ i => ⟨true, h, i⟩
      · rcases cs h with ⟨b60, h⟩ | ⟨b60, h⟩
        · exact At.rK [2, 3, 5, 25] [0, 1] [bT 3 b59, bT 8 b60] fun _ _ i => ⟨true, h, i⟩
        · exact At.rK [2, 3, 5, 25] [0, 1] [bT 3 b59, bT 8 b60] fun _ _ i => ⟨(p0.Op == 25), h, i⟩
    · intro x16 h
      refine At.cd h (fun b17 h => ?_) (fun b17 h => ?_)
      · refine At.seqJ (S := Bool) (fun s => ⟨[(4, bo s)], []⟩) (fun s => F_retraceref20_fits_J2 s = some r) ?_ ?_
        · rcases cs h with ⟨b20, h⟩ | ⟨b20, h⟩
          · exact At.rK [4] [] [bT 3 b20] fun _ _ i => ⟨(!p1.Choose), h, i⟩
          · exact At.rK [4] [] [bT 3 b20] fun _ _ i => ⟨false, h, i⟩
        · intro x19 h
          obtain rfl := sq h
          exact At.ret (At.rR hR [])
      · refine At.nR [2, 3, 5] [0, 1] ?_
        refine At.skip (norm ?_)
        refine At.seq ?_
        refine At.sR [2, 3, 5, 36] [0, 1] [] ?_
        refine At.cd h (fun b25 h => ?_) (fun b25 h => ?_)
        · refine At.seqJ (S := Bool) (fun s => ⟨[(4, bo s)], []⟩) (fun s => F_retraceref20_fits_J3 s = some r) ?_ ?_
          · rcases cs h with ⟨b28, h⟩ | ⟨b28, h⟩
            · exact At.rK [4] [] [bT 3 b28] fun _ _ i => ⟨p1.Choose, h, i⟩
            · exact At.rK [4] [] [bT 3 b28] fun _ _ i => ⟨false, h, i⟩
          · intro x27 h
            obtain rfl := sq h
            exact At.ret (At.rR hR [])
        · refine At.nR [2, 3, 5] [0, 1] ?_
          refine At.skip (norm ?_)
          refine At.seq ?_
          obtain ⟨y36, hy36, h⟩ := bs h
          refine At.sR [2, 3, 5, 46] [0, 1] [c0 2 (C_retraceref20_Chooses p0.Op y36 hy36)] ?_
          refine At.cd h (fun b37 h => ?_) (fun b37 h => ?_)
          · refine At.seqJ (S := Bool) (fun s => ⟨[(4, bo s)], []⟩) (fun s => F_retraceref20_fits_J4 s = some r) ?_ ?_
            · rcases cs h with ⟨b40, h⟩ | ⟨b40, h⟩
              · exact At.rK [4] [] [bT 2 b40] fun _ _ i => ⟨p1.Choose, h, i⟩
              · exact At.rK [4] [] [bT 2 b40] fun _ _ i => ⟨false, h, i⟩
            · intro x39 h
              obtain rfl := sq h
              exact At.ret (At.rR hR [])
          · refine At.nR [2, 3, 5] [0, 1] ?_
            refine At.skip (norm ?_)
            refine At.seq ?_
            refine At.seqJ (S := Bool) (fun s => ⟨[(3, .ptr 0 0), (5, i64 (w64 (p1.N - y2))), (60, bo s)], [.blk 137 (T_retraceref20_Is.pvs p1)]⟩) (fun s => F_retraceref20_fits_J5 p1 y2 s = some r) ?_ ?_
            · obtain ⟨y57, hy57, h⟩ := bs h
              rcases cs h with ⟨b58, h⟩ | ⟨b58, h⟩
              · exact At.rK [3, 5, 60] [1] [c0 2 (C_retraceref20_Acts p0.Op y57 hy57), bT 3 b58] fun _ _ i => ⟨true, h, i⟩
              · exact At.rK [3, 5, 60] [1] [c0 2 (C_retraceref20_Acts p0.Op y57 hy57), bT 3 b58] fun _ _ i => ⟨(p0.Op == 18), h, i⟩
            · intro x52 h
              refine At.cd h (fun b53 h => ?_) (fun b53 h => ?_)
              · refine At.seqJ (S := Bool) (fun s => ⟨[(4, bo s)], []⟩) (fun s => F_retraceref20_fits_J6 s = some r) ?_ ?_
                · rcases cs h with ⟨b56, h⟩ | ⟨b56, h⟩
                  · exact At.rK [4] [] [bT 2 b56] fun _ _ i => ⟨(!p1.Choose), h, i⟩
                  · exact At.rK [4] [] [bT 2 b56] fun _ _ i => ⟨false, h, i⟩
                · intro x55 h
                  obtain rfl := sq h
                  exact At.ret (At.rR hR [])
              · refine At.nR [] [] ?_
                refine At.skip (norm ?_)
                refine At.sR [4] [] [] ?_
                obtain rfl := sq h
                exact At.ret (At.rR hR [])
theorem C_retraceref16_Gives (p0 : T_api_Ins) (r : Int) (h : F_retraceref16_Gives p0 = some r) : FnOK Tryz.prog 87 [.agg (T_api_Ins.pvs p0)] [] (i64 r) [] [] := by
  refine fI Tryz.func87 rfl fun E gv R hR => ?_
  refine At.sR [1] [0] [] ?_
  refine At.seq ?_
  refine At.seqJ (S := Bool) (fun s => ⟨[(24, bo s)], []⟩) (fun s => F_retraceref16_Gives_J1 s = some r) ?_ ?_
  · obtain ⟨y20, hy20, h⟩ := bs h
    rcases cs h with ⟨b21, h⟩ | ⟨b21, h⟩
    · rcases cs h with ⟨b22, h⟩ | ⟨b22, h⟩
      · exact At.rK [24] [] [c0 1 (C_retraceref16_Right p0 y20 hy20), bT 2 b21, bT 6 b22] fun _ _ i => ⟨true, h, i⟩
      · rcases cs h with ⟨b23, h⟩ | ⟨b23, h⟩
        · exact At.rK [24] [] [c0 1 (C_retraceref16_Right p0 y20 hy20), bT 2 b21, bT 6 b22, bT 11 b23] fun _ _ i => ⟨true, h, i⟩
        · rcases cs h with ⟨b24, h⟩ | ⟨b24, h⟩
          · exact At.rK [24] [] [c0 1 (C_retraceref16_Right p0 y20 hy20), bT 2 b21, bT 6 b22, bT 11 b23, bT 16 b24] fun _ _ i => ⟨true, h, i⟩
          · exact At.rK [24] [] [c0 1 (C_retraceref16_Right p0 y20 hy20), bT 2 b21, bT 6 b22, bT 11 b23, bT 16 b24] fun _ _ i => ⟨(p0.Op == 9), h, i⟩
    · exact At.rK [24] [] [c0 1 (C_retraceref16_Right p0 y20 hy20), bT 2 b21] fun _ _ i => ⟨false, h, i⟩
  · intro x18 h
    refine At.cd h (fun b19 h => ?_) (fun b19 h => ?_)
    · refine At.sR [2] [] [] ?_
      obtain rfl := sq h
      exact At.ret (At.rR hR [])
    · refine At.nR [] [] ?_
      refine At.skip (norm ?_)
      refine At.sR [2] [] [] ?_
      obtain rfl := sq h
      exact At.ret (At.rR hR [])
theorem C_retraceref20_meets (p1 : Int) (p2 : Int) (p3 : T_retraceref20_Is) (o0 : (List T_retraceref20_Is)) (r : ((List T_retraceref20_Is) × Bool) ⊕ ((List T_retraceref20_Is) × Bool)) (h : F_retraceref20_meets p1 p2 p3 o0 = some r) : FnOK Tryz.prog 88 [.row 0 (o0).length, i64 p1, i64 p2, .agg (T_retraceref20_Is.pvs p3)] [.row 137 3 (encL T_retraceref20_Is.enc o0)] ((Sum.elim (fun r => .tup [.row 0 (r.1).length, bo r.2]) (fun r => .tup [.row 1 (r.1).length, bo r.2])) r) ((Sum.elim (fun r => [.row 137 3 (encL T_retraceref20_Is.enc r.1)]) (fun r => [.row 137 3 (encL T_retraceref20_Is.enc o0), .row 137 3 (encL T_retraceref20_Is.enc r.1)])) r) [0] := by
  refine fI Tryz.func88 rfl fun E gv R hR => ?_
  refine At.sR [0, 1, 2, 7] [0, 1, 2] [] ?_
  refine At.seq ?_
  refine At.sR [0, 2, 7, 13] [0, 1, 2] [] ?_
  refine At.cd h (fun b2 h => ?_) (fun b2 h => ?_)
  · refine At.sD 0 [8, 9] [0, 1] [] ?_
    obtain rfl := sq h
    exact At.ret (At.rR hR [0])
  · refine At.nR [0, 2, 7] [0, 1, 2] ?_
    refine At.skip (norm ?_)
    refine At.seq ?_
    obtain ⟨y9, hy9, h⟩ := bs h
    refine At.sR [0, 2, 7, 22] [0, 1, 2] [oT 2 (rEl hy9), vT 4 (.bool y9.Come) (rElV T_retraceref20_Is.enc_len hy9 0 (by decide) (d := .bool y9.Come) (by rfl))] ?_
    refine At.cd h (fun b10 h => ?_) (fun b10 h => ?_)
    · obtain ⟨y12, hy12, h⟩ := bs h
      refine At.sD 0 [8, 9] [0, 1] [oT 3 (rEl hy12), tT 4 ({ orc := .cells [.bool y12.Come, .int .i64 y12.N, .bool y12.Choose] }) (allc (rElC T_retraceref20_Is.enc_len hy12 0 3 (by decide) (by rfl)) all0)] ?_
      obtain rfl := sq h
      exact At.ret (At.rR hR [0])
    · refine At.nR [0, 2, 7] [0, 1, 2] ?_
      refine At.skip (norm ?_)
      refine At.seq ?_
      obtain ⟨g14, h⟩ := gs h
      refine At.rK (st' := ⟨[(2, i64 p2), (7, .ptr 2 0), (10, .row 3 ((([] : List T_retraceref20_Is) ++ o0)).length)], [.row 137 3 (encL T_retraceref20_Is.enc o0), .ghost (gv 0) (.row 0 0), .blk 137 (T_retraceref20_Is.pvs p3), .row 137 3 (encL T_retraceref20_Is.enc (([] : List T_retraceref20_Is) ++ o0))]⟩) [2, 7, 10] [0, 1, 2, 3] [aT T_retraceref20_Is.enc_len 2 ([] : List T_retraceref20_Is) o0 rfl g14] (norm ?_)
      refine At.seq ?_
      obtain ⟨y16, hy16, h⟩ := bs h
      refine At.rK (st' := ⟨[(10, .row 2 ((([] : List T_retraceref20_Is) ++ o0)).length)], [.row 137 3 (encL T_retraceref20_Is.enc o0), .ghost (gv 0) (.row 0 0), .row 137 3 (encL T_retraceref20_Is.enc (List.set (([] : List T_retraceref20_Is) ++ o0) (Int.toNat p2) p3))]⟩) [10] [0, 1, 3] [oT 3 (rEl hy16), tT 4 ({ form := some (0, encL T_retraceref20_Is.enc (List.set (([] : List T_retraceref20_Is) ++ o0) (Int.toNat p2) p3)), obj := 3 }) (allc ((rSetM T_retraceref20_Is.enc_len hy16 0 p3 (vs := [.bool p3.Come, .int .i64 p3.N, .bool p3.Choose]) (by rfl) (Nat.le_of_ble_eq_true rfl)).1) (allc ((rSetM T_retraceref20_Is.enc_len hy16 0 p3 (vs := [.bool p3.Come, .int .i64 p3.N, .bool p3.Choose]) (by rfl) (Nat.le_of_ble_eq_true rfl)).2) all0))] (relen (st2 := ⟨[(10, .row 2 ((List.set (([] : List T_retraceref20_Is) ++ o0) (Int.toNat p2) p3)).length)], [.row 137 3 (encL T_retraceref20_Is.enc o0), .ghost (gv 0) (.row 0 0), .row 137 3 (encL T_retraceref20_Is.enc (List.set (([] : List T_retraceref20_Is) ++ o0) (Int.toNat p2) p3))]⟩) (by simp only [List.length_set]) (norm ?_))
      refine At.sR [8, 9] [0, 1, 2] [] ?_
      obtain rfl := sq h
      exact At.ret (At.rR hR [0, 2])
theorem C_retraceref20_Flow (p0 : T_api_Code) (p1 : Int) (r : (List T_retraceref20_Is) × Int) (h : F_retraceref20_Flow p0 p1 = some r) : FnOK Tryz.prog 44 [.agg (T_api_Code.pvs p0), i64 p1] [] (.tup [.row 0 (r.1).length, i64 r.2]) [.row 137 3 (encL T_retraceref20_Is.enc r.1)] [] := by
  refine fI Tryz.func44 rfl fun E gv R hR => ?_
  refine At.sR [1, 2] [0] [] ?_
  obtain ⟨g2, h⟩ := gs h
  refine At.sR [1, 2, 6] [0, 1] [tT 4 ({ form := some (((List.replicate (Int.toNat (w64 (((p0.Ins).length : Int) + 1))) (⟨false, 0, false⟩ : T_retraceref20_Is))).length, encL T_retraceref20_Is.enc (List.replicate (Int.toNat (w64 (((p0.Ins).length : Int) + 1))) (⟨false, 0, false⟩ : T_retraceref20_Is))) }) (allc (len_rep (Int.toNat (w64 (((p0.Ins).length : Int) + 1))) (⟨false, 0, false⟩ : T_retraceref20_Is)) (allc (encL_repM T_retraceref20_Is.enc (⟨false, 0, false⟩ : T_retraceref20_Is) rfl (Int.toNat (w64 (((p0.Ins).length : Int) + 1)))) (allc g2 all0)))] ?_
  refine At.seq ?_
  obtain ⟨y5, hy5, h⟩ := bs h
  obtain ⟨y6, hy6, h⟩ := bs h
  refine At.rK (st' := ⟨[(1, i64 p1), (2, .ptr 0 0), (6, .row 1 ((List.replicate (Int.toNat (w64 (((p0.Ins).length : Int) + 1))) (⟨false, 0, false⟩ : T_retraceref20_Is))).length)], [.blk 27 (T_api_Code.pvs p0), .row 137 3 (encL T_retraceref20_Is.enc (List.set (List.replicate (Int.toNat (w64 (((p0.Ins).length : Int) + 1))) (⟨false, 0, false⟩ : T_retraceref20_Is)) (Int.toNat y5.Entry) (⟨true, y6.N, y6.Choose⟩ : T_retraceref20_Is)))]⟩) [1, 2, 6] [0, 1] [eT T_api_Def.enc_len 4 hy5, oT 7 (rEl hy6), tT 9 ({ form := some (0, encL T_retraceref20_Is.enc (List.set (List.replicate (Int.toNat (w64 (((p0.Ins).length : Int) + 1))) (⟨false, 0, false⟩ : T_retraceref20_Is)) (Int.toNat y5.Entry) (⟨true, y6.N, y6.Choose⟩ : T_retraceref20_Is))), obj := 1 }) (allc ((rSetM T_retraceref20_Is.enc_len hy6 0 (⟨true, y6.N, y6.Choose⟩ : T_retraceref20_Is) (vs := [.bool true]) (by rfl) (Nat.le_of_ble_eq_true rfl)).1) (allc ((rSetM T_retraceref20_Is.enc_len hy6 0 (⟨true, y6.N, y6.Choose⟩ : T_retraceref20_Is) (vs := [.bool true]) (by rfl) (Nat.le_of_ble_eq_true rfl)).2) all0))] (relen (st2 := ⟨[(1, i64 p1), (2, .ptr 0 0), (6, .row 1 ((List.set (List.replicate (Int.toNat (w64 (((p0.Ins).length : Int) + 1))) (⟨false, 0, false⟩ : T_retraceref20_Is)) (Int.toNat y5.Entry) (⟨true, y6.N, y6.Choose⟩ : T_retraceref20_Is))).length)], [.blk 27 (T_api_Code.pvs p0), .row 137 3 (encL T_retraceref20_Is.enc (List.set (List.replicate (Int.toNat (w64 (((p0.Ins).length : Int) + 1))) (⟨false, 0, false⟩ : T_retraceref20_Is)) (Int.toNat y5.Entry) (⟨true, y6.N, y6.Choose⟩ : T_retraceref20_Is)))]⟩) (by simp only [List.length_set]) (norm ?_))
  refine At.seq ?_
  obtain ⟨y227, hy227, h⟩ := bs h
  refine At.sR [1, 2, 6, 7] [0, 1] [eT T_api_Def.enc_len 3 hy227] ?_
  refine At.block ?_
  refine At.nK (st' := ⟨[(1, i64 p1), (2, .ptr 0 0), (6, .row 1 ((List.set (List.replicate (Int.toNat (w64 (((p0.Ins).length : Int) + 1))) (⟨false, 0, false⟩ : T_retraceref20_Is)) (Int.toNat y5.Entry) (⟨true, y6.N, y6.Choose⟩ : T_retraceref20_Is))).length), (7, i64 y227.Entry)], [.blk 27 (T_api_Code.pvs p0), .row 137 3 (encL T_retraceref20_Is.enc (List.set (List.replicate (Int.toNat (w64 (((p0.Ins).length : Int) + 1))) (⟨false, 0, false⟩ : T_retraceref20_Is)) (Int.toNat y5.Entry) (⟨true, y6.N, y6.Choose⟩ : T_retraceref20_Is)))]⟩) [1, 2, 6, 7] [0, 1] ?_
  refine At.lp (fun s : (Int × (List T_retraceref20_Is)) => ⟨[(1, i64 p1), (2, .ptr 0 0), (6, .row 1 (s.2).length), (7, i64 s.1)], [.blk 27 (T_api_Code.pvs p0), .row 137 3 (encL T_retraceref20_Is.enc s.2)]⟩) h ?_
  rintro ⟨x228, x229⟩ oo230 h f231
  replace h : F_retraceref20_Flow_L8 p0 p1 x228 x229 = some oo230 := h
  refine At.seq ?_
  obtain ⟨y236, hy236, h⟩ := bs h
  refine At.sR [1, 2, 6, 7, 38] [0, 1] [c0 3 (C_retraceref20_To p0 p1 y236 hy236)] ?_
  refine At.cd h (fun b237 h => ?_) (fun b237 h => ?_)
  · refine At.nR [1, 2, 6, 7] [0, 1] ?_
    refine At.skip (norm ?_)
    refine At.seqJ (S := (List T_retraceref20_Is)) (fun s => ⟨[(1, i64 p1), (2, .ptr 0 0), (6, .row 1 (s).length), (7, i64 x228)], [.blk 27 (T_api_Code.pvs p0), .row 137 3 (encL T_retraceref20_Is.enc s)]⟩) (fun s => F_retraceref20_Flow_J1 x228 s = some oo230) ?_ ?_
    · refine At.block ?_
      refine At.seq ?_
      refine At.seqJ (S := Bool) (fun s => ⟨[(1, i64 p1), (2, .ptr 0 0), (6, .row 1 (x229).length), (7, i64 x228), (55, bo s)], [.blk 27 (T_api_Code.pvs p0), .row 137 3 (encL T_retraceref20_Is.enc x229)]⟩) (fun s => F_retraceref20_Flow_J2 p0 x228 x229 s = some oo230) ?_ ?_
      · obtain ⟨y440, hy440, h⟩ := bs h
        rcases cs h with ⟨b441, h⟩ | ⟨b441, h⟩
        · obtain ⟨y442, hy442, h⟩ := bs h
          exact At.rK [1, 2, 6, 7, 55] [0, 1] [oT 2 (rEl hy440), vT 4 (.bool y440.Come) (rElV T_retraceref20_Is.enc_len hy440 0 (by decide) (d := .bool y440.Come) (by rfl)), bT 6 b441, eT T_api_Ins.enc_len 10 hy442] fun _ _ i => ⟨(y442.Op != 1), h, i⟩
        · exact At.rK [1, 2, 6, 7, 55] [0, 1] [oT 2 (rEl hy440), vT 4 (.bool y440.Come) (rElV T_retraceref20_Is.enc_len hy440 0 (by decide) (d := .bool y440.Come) (by rfl)), bT 6 b441] fun _ _ i => ⟨false, h, i⟩
      · intro x349 h
        refine At.cd h (fun b350 h => ?_) (fun b350 h => ?_)
        · refine At.nR [1, 2, 6, 7] [0, 1] ?_
          refine At.exit (fun _ _ i => ⟨x229, h, i.en [] [1, 2, 6, 7] [0, 1]⟩)
        · refine At.nR [1, 2, 6, 7] [0, 1] ?_
          refine At.skip (norm ?_)
          refine At.seq ?_
          obtain ⟨y352, hy352, h⟩ := bs h
          refine At.rK (st' := ⟨[(1, i64 p1), (2, .ptr 0 0), (6, .row 1 (x229).length), (7, i64 x228)], [.blk 27 (T_api_Code.pvs p0), .row 137 3 (encL T_retraceref20_Is.enc (List.set x229 (Int.toNat x228) (⟨true, y352.N, y352.Choose⟩ : T_retraceref20_Is)))]⟩) [1, 2, 6, 7] [0, 1] [oT 2 (rEl hy352), tT 4 ({ form := some (0, encL T_retraceref20_Is.enc (List.set x229 (Int.toNat x228) (⟨true, y352.N, y352.Choose⟩ : T_retraceref20_Is))), obj := 1 }) (allc ((rSetM T_retraceref20_Is.enc_len hy352 0 (⟨true, y352.N, y352.Choose⟩ : T_retraceref20_Is) (vs := [.bool true]) (by rfl) (Nat.le_of_ble_eq_true rfl)).1) (allc ((rSetM T_retraceref20_Is.enc_len hy352 0 (⟨true, y352.N, y352.Choose⟩ : T_retraceref20_Is) (vs := [.bool true]) (by rfl) (Nat.le_of_ble_eq_true rfl)).2) all0))] (relen (st2 := ⟨[(1, i64 p1), (2, .ptr 0 0), (6, .row 1 ((List.set x229 (Int.toNat x228) (⟨true, y352.N, y352.Choose⟩ : T_retraceref20_Is))).length), (7, i64 x228)], [.blk 27 (T_api_Code.pvs p0), .row 137 3 (encL T_retraceref20_Is.enc (List.set x229 (Int.toNat x228) (⟨true, y352.N, y352.Choose⟩ : T_retraceref20_Is)))]⟩) (by simp only [List.length_set]) (norm ?_))
          obtain ⟨y354, hy354, h⟩ := bs h
          refine At.sR [1, 2, 6, 7, 8] [0, 1, 2] [eT T_api_Ins.enc_len 3 hy354] ?_
          refine At.seq ?_
          obtain ⟨y362, hy362, h⟩ := bs h
          obtain ⟨y363, hy363, h⟩ := bs h
          refine At.sD 0 [1, 2, 6, 7, 8, 71] [0, 1, 2] [oT 3 (rEl hy362), tT 4 ({ orc := .cells [.bool y362.Come, .int .i64 y362.N, .bool y362.Choose] }) (allc (rElC T_retraceref20_Is.enc_len hy362 0 3 (by decide) (by rfl)) all0), c0 5 (C_retraceref20_fits y354 y362 y363 hy363)] ?_
          refine At.cd h (fun b364 h => ?_) (fun b364 h => ?_)
          · refine At.sR [4, 5] [1] [] ?_
            obtain ⟨r365, h, e366⟩ := mr h
            rw [f231 _ e366] at h
            obtain rfl := sq h
            exact At.ret (At.rR hR [0])
          · refine At.nR [1, 2, 6, 7, 8] [0, 1, 2] ?_
            refine At.skip (norm ?_)
            refine At.seqJ (S := Int × Bool) (fun s => ⟨[(1, i64 p1), (2, .ptr 0 0), (6, .row 1 ((List.set x229 (Int.toNat x228) (⟨true, y352.N, y352.Choose⟩ : T_retraceref20_Is))).length), (7, i64 x228), (8, .ptr 2 0), (9, .ptr 3 0)], [.blk 27 (T_api_Code.pvs p0), .row 137 3 (encL T_retraceref20_Is.enc (List.set x229 (Int.toNat x228) (⟨true, y352.N, y352.Choose⟩ : T_retraceref20_Is))), .blk 84 (T_api_Ins.pvs y354), .blk 137 [bo true, i64 s.1, bo s.2]]⟩) (fun s => F_retraceref20_Flow_J3 x228 x229 y352 y354 s.1 s.2 = some oo230) ?_ ?_
            · obtain ⟨y435, hy435, h⟩ := bs h
              obtain ⟨y436, hy436, h⟩ := bs h
              obtain ⟨y437, hy437, h⟩ := bs h
              obtain ⟨y438, hy438, h⟩ := bs h
              rcases cs h with ⟨b439, h⟩ | ⟨b439, h⟩
              · exact At.dK 1 [1, 2, 6, 7, 8, 9] [0, 1, 2, 3] [oT 2 (rEl hy435), vT 4 (.int .i64 y435.N) (rElV T_retraceref20_Is.enc_len hy435 1 (by decide) (d := .int .i64 y435.N) (by rfl)), c0 6 (C_retraceref16_Takes y354 y436 hy436), c0 9 (C_retraceref16_Gives y354 y437 hy437), oT 13 (rEl hy438), vT 15 (.bool y438.Choose) (rElV T_retraceref20_Is.enc_len hy438 2 (by decide) (d := .bool y438.Choose) (by rfl)), bT 16 b439] fun _ _ i => ⟨((w64 ((w64 (y435.N - y436)) + y437)), true), h, i⟩
              · exact At.dK 1 [1, 2, 6, 7, 8, 9] [0, 1, 2, 3] [oT 2 (rEl hy435), vT 4 (.int .i64 y435.N) (rElV T_retraceref20_Is.enc_len hy435 1 (by decide) (d := .int .i64 y435.N) (by rfl)), c0 6 (C_retraceref16_Takes y354 y436 hy436), c0 9 (C_retraceref16_Gives y354 y437 hy437), oT 13 (rEl hy438), vT 15 (.bool y438.Choose) (rElV T_retraceref20_Is.enc_len hy438 2 (by decide) (d := .bool y438.Choose) (by rfl)), bT 16 b439] fun _ _ i => ⟨((w64 ((w64 (y435.N - y436)) + y437)), (y354.Op == 25)), h, i⟩
            · rintro ⟨x372, x373⟩ h
              replace h : F_retraceref20_Flow_J3 x228 x229 y352 y354 x372 x373 = some oo230 := h
              refine At.sR [1, 2, 6, 7, 8, 9, 10] [0, 1, 2, 3] [] ?_
              refine At.seqJ (S := Bool × (List T_retraceref20_Is)) (fun s => ⟨[(1, i64 p1), (2, .ptr 0 0), (6, .row 1 (s.2).length), (7, i64 x228), (8, .ptr 2 0), (9, .ptr 3 0), (10, bo s.1)], [.blk 27 (T_api_Code.pvs p0), .row 137 3 (encL T_retraceref20_Is.enc s.2), .blk 84 (T_api_Ins.pvs y354), .blk 137 [bo true, i64 x372, bo x373]]⟩) (fun s => F_retraceref20_Flow_J4 x228 y354 x372 x373 s.1 s.2 = some oo230) ?_ ?_
              · obtain ⟨y422, hy422, h⟩ := bs h
                refine At.sR [1, 2, 6, 7, 8, 9, 10, 11, 12] [0, 1, 2, 3] [c0 1 (C_retraceref20_target y354 y422 hy422)] ?_
                refine At.sR [1, 2, 6, 7, 8, 9, 10, 11, 101] [0, 1, 2, 3] [] ?_
                refine At.cd h (fun b423 h => ?_) (fun b423 h => ?_)
                · refine At.sR [1, 2, 6, 7, 8, 9, 11, 13] [0, 1, 2, 3, 4] [] ?_
                  refine At.seqJ (S := Int × Bool) (fun s => ⟨[(1, i64 p1), (2, .ptr 0 0), (6, .row 1 ((List.set x229 (Int.toNat x228) (⟨true, y352.N, y352.Choose⟩ : T_retraceref20_Is))).length), (7, i64 x228), (8, .ptr 2 0), (9, .ptr 3 0), (11, i64 y422.1), (13, .ptr 4 0)], [.blk 27 (T_api_Code.pvs p0), .row 137 3 (encL T_retraceref20_Is.enc (List.set x229 (Int.toNat x228) (⟨true, y352.N, y352.Choose⟩ : T_retraceref20_Is))), .blk 84 (T_api_Ins.pvs y354), .blk 137 [bo true, i64 x372, bo x373], .blk 137 [bo true, i64 s.1, bo s.2]]⟩) (fun s => F_retraceref20_Flow_J7 x228 x229 y352 y354 x372 x373 y422 s.1 s.2 = some oo230) ?_ ?_
                  · obtain ⟨y433, hy433, h⟩ := bs h
                    refine At.sR [1, 2, 6, 7, 8, 9, 11, 13, 105] [0, 1, 2, 3, 4] [c0 2 (C_retraceref20_Chooses y354.Op y433 hy433)] ?_
                    refine At.cd h (fun b434 h => ?_) (fun b434 h => ?_)
                    · exact At.rK [1, 2, 6, 7, 8, 9, 11, 13] [0, 1, 2, 3, 4] [] fun _ _ i => ⟨(0, false), h, i⟩
                    · refine At.nK (st' := ⟨[(1, i64 p1), (2, .ptr 0 0), (6, .row 1 ((List.set x229 (Int.toNat x228) (⟨true, y352.N, y352.Choose⟩ : T_retraceref20_Is))).length), (7, i64 x228), (8, .ptr 2 0), (9, .ptr 3 0), (11, i64 y422.1), (13, .ptr 4 0)], [.blk 27 (T_api_Code.pvs p0), .row 137 3 (encL T_retraceref20_Is.enc (List.set x229 (Int.toNat x228) (⟨true, y352.N, y352.Choose⟩ : T_retraceref20_Is))), .blk 84 (T_api_Ins.pvs y354), .blk 137 [bo true, i64 x372, bo x373], .blk 137 [bo true, i64 x372, bo x373]]⟩) [1, 2, 6, 7, 8, 9, 11, 13] [0, 1, 2, 3, 4] ?_
                      refine At.skip (fun _ _ i => ⟨(x372, x373), h, i⟩)
                  · rintro ⟨x427, x428⟩ h
                    replace h : F_retraceref20_Flow_J7 x228 x229 y352 y354 x372 x373 y422 x427 x428 = some oo230 := h
                    obtain ⟨y429, hy429, h⟩ := bs h
                    rcases y429 with y430 | y431
                    · exact At.rK [1, 2, 6, 7, 8, 9, 10] [0, 1, 2, 3] [cT 4 1 [1] (C_retraceref20_meets x228 y422.1 (⟨true, x427, x428⟩ : T_retraceref20_Is) (List.set x229 (Int.toNat x228) (⟨true, y352.N, y352.Choose⟩ : T_retraceref20_Is)) (.inl y430) hy429)] fun _ _ i => ⟨(y430.2, y430.1), h, i⟩
                    · exact At.rK [1, 2, 6, 7, 8, 9, 10] [0, 5, 2, 3] [cT 4 1 [1, 5] (C_retraceref20_meets x228 y422.1 (⟨true, x427, x428⟩ : T_retraceref20_Is) (List.set x229 (Int.toNat x228) (⟨true, y352.N, y352.Choose⟩ : T_retraceref20_Is)) (.inr y431) hy429)] fun _ _ i => ⟨(y431.2, y431.1), h, i⟩
                · refine At.nR [1, 2, 6, 7, 8, 9, 10] [0, 1, 2, 3] ?_
                  refine At.skip (fun _ _ i => ⟨(true, (List.set x229 (Int.toNat x228) (⟨true, y352.N, y352.Choose⟩ : T_retraceref20_Is))), h, i.en [] [1, 2, 6, 7, 8, 9, 10] [0, 1, 2, 3]⟩)
              · rintro ⟨x388, x389⟩ h
                replace h : F_retraceref20_Flow_J4 x228 y354 x372 x373 x388 x389 = some oo230 := h
                refine At.seq ?_
                refine At.sR [1, 2, 6, 7, 8, 9, 10, 116] [0, 1, 2, 3] [] ?_
                refine At.cd h (fun b391 h => ?_) (fun b391 h => ?_)
                · refine At.sR [4, 5] [1] [] ?_
                  obtain ⟨r392, h, e393⟩ := mr h
                  rw [f231 _ e393] at h
                  obtain rfl := sq h
                  exact At.ret (At.rR hR [0])
                · refine At.nR [1, 2, 6, 7, 8, 9, 10] [0, 1, 2, 3] ?_
                  refine At.skip (norm ?_)
                  refine At.seqJ (S := Bool × (List T_retraceref20_Is)) (fun s => ⟨[(1, i64 p1), (2, .ptr 0 0), (6, .row 1 (s.2).length), (7, i64 x228), (10, bo s.1)], [.blk 27 (T_api_Code.pvs p0), .row 137 3 (encL T_retraceref20_Is.enc s.2)]⟩) (fun s => F_retraceref20_Flow_J5 x228 s.1 s.2 = some oo230) ?_ ?_
                  · refine At.seqJ (S := Bool) (fun s => ⟨[(1, i64 p1), (2, .ptr 0 0), (6, .row 1 (x389).length), (7, i64 x228), (9, .ptr 2 0), (10, bo x388), (136, bo s)], [.blk 27 (T_api_Code.pvs p0), .row 137 3 (encL T_retraceref20_Is.enc x389), .blk 137 [bo true, i64 x372, bo x373]]⟩) (fun s => F_retraceref20_Flow_J6 x228 x372 x373 x388 x389 s = some oo230) ?_ ?_
                    · rcases cs h with ⟨b418, h⟩ | ⟨b418, h⟩
                      · rcases cs h with ⟨b419, h⟩ | ⟨b419, h⟩
                        · rcases cs h with ⟨b420, h⟩ | ⟨b420, h⟩
                          · exact At.rK [1, 2, 6, 7, 9, 10, 136] [0, 1, 3] [bT 3 b418, bT 8 b419, bT 13 b420] fun _ _ i => ⟨(y354.Op != 24), h, i⟩
                          · exact At.rK [1, 2, 6, 7, 9, 10, 136] [0, 1, 3] [bT 3 b418, bT 8 b419, bT 13 b420] fun _ _ i => ⟨false, h, i⟩
                        · exact At.rK [1, 2, 6, 7, 9, 10, 136] [0, 1, 3] [bT 3 b418, bT 8 b419] fun _ _ i => ⟨false, h, i⟩
                      · exact At.rK [1, 2, 6, 7, 9, 10, 136] [0, 1, 3] [bT 3 b418] fun _ _ i => ⟨false, h, i⟩
                    · intro x413 h
                      refine At.cd h (fun b414 h => ?_) (fun b414 h => ?_)
                      · obtain ⟨y415, hy415, h⟩ := bs h
                        rcases y415 with y416 | y417
                        · exact At.rK [1, 2, 6, 7, 10] [0, 1] [cT 5 1 [1] (C_retraceref20_meets x228 (w64 (x228 + 1)) (⟨true, x372, x373⟩ : T_retraceref20_Is) x389 (.inl y416) hy415)] fun _ _ i => ⟨(y416.2, y416.1), h, i⟩
                        · exact At.rK [1, 2, 6, 7, 10] [0, 3] [cT 5 1 [1, 3] (C_retraceref20_meets x228 (w64 (x228 + 1)) (⟨true, x372, x373⟩ : T_retraceref20_Is) x389 (.inr y417) hy415)] fun _ _ i => ⟨(y417.2, y417.1), h, i⟩
                      · refine At.nR [1, 2, 6, 7, 10] [0, 1] ?_
                        refine At.skip (fun _ _ i => ⟨(x388, x389), h, i.en [] [1, 2, 6, 7, 10] [0, 1]⟩)
                  · rintro ⟨x405, x406⟩ h
                    replace h : F_retraceref20_Flow_J5 x228 x405 x406 = some oo230 := h
                    refine At.sR [1, 2, 6, 7, 147] [0, 1] [] ?_
                    refine At.cd h (fun b407 h => ?_) (fun b407 h => ?_)
                    · refine At.sR [4, 5] [1] [] ?_
                      obtain ⟨r408, h, e409⟩ := mr h
                      rw [f231 _ e409] at h
                      obtain rfl := sq h
                      exact At.ret (At.rR hR [0])
                    · refine At.nR [1, 2, 6, 7] [0, 1] ?_
                      refine At.skip (fun _ _ i => ⟨x406, h, i.en [] [1, 2, 6, 7] [0, 1]⟩)
    · intro x337 h
      exact At.rK [1, 2, 6, 7] [0, 1] [] fun _ _ i => ⟨_, li h, i⟩
  · refine At.nR [6] [1] ?_
    obtain ⟨r443, h, e444⟩ := mr h
    rw [f231 _ e444] at h
    refine At.exit (norm ?_)
    refine At.sR [4, 5] [0] [] ?_
    obtain rfl := sq h
    exact At.ret (At.rR hR [0])
theorem C_retraceref20_Check (p0 : T_api_Code) (r : (List Int)) (h : F_retraceref20_Check p0 = some r) : FnOK Tryz.prog 17 [.agg (T_api_Code.pvs p0)] [] (.dagg (encL (eInt .i64) r)) [] [] := by
  refine fI Tryz.func17 rfl fun E gv R hR => ?_
  refine At.sR [1, 2] [0, 1] [] ?_
  refine At.seq ?_
  obtain ⟨y7, hy7, h⟩ := bs h
  refine At.sR [1, 2, 11] [0, 1] [c0 1 (C_retraceref20_tables p0 y7 hy7)] ?_
  refine At.cd h (fun b8 h => ?_) (fun b8 h => ?_)
  · obtain ⟨g10, h⟩ := gs h
    refine At.sR [2] [1] [oN 1 (allc (lenN (he_int .i64) ([0, 3] : List Int) g10.1) (allc (lenN (he_int .i64) (List.replicate 2 (0 : Int)) g10.2) all0))] ?_
    obtain ⟨g11, h⟩ := gs h
    obtain rfl := sq h
    exact At.ret (At.rQ hR [] (allc (lenN (he_int .i64) ([0, 3] : List Int) g11) all0))
  · refine At.nR [1, 2] [0, 1] ?_
    refine At.skip (norm ?_)
    refine At.sR [1, 2, 3] [0, 1] [] ?_
    refine At.seq ?_
    refine At.sR [1, 2, 3, 4] [0, 1] [] ?_
    refine At.block ?_
    refine At.nK (st' := ⟨[(1, .ptr 0 0), (2, .ptr 1 0), (3, i64 0), (4, i64 0)], [.blk 27 (T_api_Code.pvs p0), .dblk 46 (encL (eInt .i64) (List.replicate 2 (0 : Int)))]⟩) [1, 2, 3, 4] [0, 1] ?_
    refine At.lp (fun s : (Int × Int) => ⟨[(1, .ptr 0 0), (2, .ptr 1 0), (3, i64 s.1), (4, i64 s.2)], [.blk 27 (T_api_Code.pvs p0), .dblk 46 (encL (eInt .i64) (List.replicate 2 (0 : Int)))]⟩) h ?_
    rintro ⟨x108, x109⟩ oo110 h f111
    replace h : F_retraceref20_Check_L4 p0 x108 x109 = some oo110 := h
    refine At.seq ?_
    refine At.sR [1, 2, 3, 4, 17] [0, 1] [] ?_
    refine At.cd h (fun b113 h => ?_) (fun b113 h => ?_)
    · refine At.nR [1, 2, 3, 4] [0, 1] ?_
      refine At.skip (norm ?_)
      refine At.seq ?_
      refine At.block ?_
      obtain ⟨y158, hy158, h⟩ := bs h
      refine At.sR [1, 2, 3, 4, 5] [0, 1] [eT T_api_Def.enc_len 3 hy158] ?_
      refine At.block ?_
      refine At.nK (st' := ⟨[(1, .ptr 0 0), (2, .ptr 1 0), (3, i64 x108), (4, i64 x109), (5, i64 y158.Entry)], [.blk 27 (T_api_Code.pvs p0), .dblk 46 (encL (eInt .i64) (List.replicate 2 (0 : Int)))]⟩) [1, 2, 3, 4, 5] [0, 1] ?_
      refine At.lp (fun s : (Int × Int) => ⟨[(1, .ptr 0 0), (2, .ptr 1 0), (3, i64 s.1), (4, i64 x109), (5, i64 s.2)], [.blk 27 (T_api_Code.pvs p0), .dblk 46 (encL (eInt .i64) (List.replicate 2 (0 : Int)))]⟩) h ?_
      rintro ⟨x159, x160⟩ oo161 h f162
      replace h : F_retraceref20_Check_L2 p0 x109 x159 x160 = some oo161 := h
      refine At.seq ?_
      obtain ⟨y167, hy167, h⟩ := bs h
      refine At.sR [1, 2, 3, 4, 5, 30] [0, 1] [c0 3 (C_retraceref20_To p0 x109 y167 hy167)] ?_
      refine At.cd h (fun b168 h => ?_) (fun b168 h => ?_)
      · refine At.nR [1, 2, 3, 4, 5] [0, 1] ?_
        refine At.skip (norm ?_)
        refine At.seqJ (S := Int) (fun s => ⟨[(1, .ptr 0 0), (2, .ptr 1 0), (3, i64 s), (4, i64 x109), (5, i64 x160)], [.blk 27 (T_api_Code.pvs p0), .dblk 46 (encL (eInt .i64) (List.replicate 2 (0 : Int)))]⟩) (fun s => F_retraceref20_Check_J1 x160 s = some oo161) ?_ ?_
        · refine At.block ?_
          refine At.seq ?_
          obtain ⟨y189, hy189, h⟩ := bs h
          refine At.sR [1, 2, 3, 4, 5, 38] [0, 1] [c0 4 (C_retraceref20_may p0 x109 x160 x159 y189 hy189)] ?_
          refine At.cd h (fun b190 h => ?_) (fun b190 h => ?_)
          · obtain ⟨g192, h⟩ := gs h
            refine At.sR [2] [1] [oN 2 (allc (lenN (he_int .i64) ([x160, 15] : List Int) g192.1) (allc (lenN (he_int .i64) (List.replicate 2 (0 : Int)) g192.2) all0))] ?_
            obtain ⟨r193, h, e194⟩ := mr h
            rw [f162 _ e194] at h
            obtain ⟨r195, h, e196⟩ := mr h
            rw [f111 _ e196] at h
            obtain ⟨g197, h⟩ := gs h
            obtain rfl := sq h
            exact At.ret (At.rQ hR [] (allc (lenN (he_int .i64) ([x160, 15] : List Int) g197) all0))
          · refine At.nR [1, 2, 3, 4, 5] [0, 1] ?_
            refine At.skip (norm ?_)
            obtain ⟨y199, hy199, h⟩ := bs h
            refine At.sR [1, 2, 3, 4, 5, 47] [0, 1] [eT T_api_Ins.enc_len 3 hy199] ?_
            refine At.cd h (fun b200 h => ?_) (fun b200 h => ?_)
            · exact At.rK [1, 2, 3, 4, 5] [0, 1] [] fun _ _ i => ⟨(w64 (x159 + 1)), h, i⟩
            · refine At.nK (st' := ⟨[(1, .ptr 0 0), (2, .ptr 1 0), (3, i64 x159), (4, i64 x109), (5, i64 x160)], [.blk 27 (T_api_Code.pvs p0), .dblk 46 (encL (eInt .i64) (List.replicate 2 (0 : Int)))]⟩) [1, 2, 3, 4, 5] [0, 1] ?_
              refine At.skip (fun _ _ i => ⟨x159, h, i⟩)
        · intro x182 h
          exact At.rK [1, 2, 3, 4, 5] [0, 1] [] fun _ _ i => ⟨_, li h, i⟩
      · refine At.nR [1, 2, 3, 4] [0, 1] ?_
        obtain ⟨r201, h, e202⟩ := mr h
        rw [f162 _ e202] at h
        refine At.exit (norm ?_)
        exact At.rK [1, 2, 3, 4] [0, 1] [] fun _ _ i => ⟨_, li h, i⟩
    · refine At.nR [1, 2, 3] [0, 1] ?_
      obtain ⟨r203, h, e204⟩ := mr h
      rw [f111 _ e204] at h
      refine At.exit (norm ?_)
      refine At.seq ?_
      refine At.sR [1, 2, 53] [0, 1] [] ?_
      refine At.cd h (fun b208 h => ?_) (fun b208 h => ?_)
      · obtain ⟨g210, h⟩ := gs h
        refine At.sR [2] [1] [oN 1 (allc (lenN (he_int .i64) ([0, 3] : List Int) g210.1) (allc (lenN (he_int .i64) (List.replicate 2 (0 : Int)) g210.2) all0))] ?_
        obtain ⟨g211, h⟩ := gs h
        obtain rfl := sq h
        exact At.ret (At.rQ hR [] (allc (lenN (he_int .i64) ([0, 3] : List Int) g211) all0))
      · refine At.nR [1, 2] [0, 1] ?_
        refine At.skip (norm ?_)
        refine At.seq ?_
        refine At.sR [1, 2, 6] [0, 1] [] ?_
        refine At.block ?_
        refine At.nK (st' := ⟨[(1, .ptr 0 0), (2, .ptr 1 0), (6, i64 0)], [.blk 27 (T_api_Code.pvs p0), .dblk 46 (encL (eInt .i64) (List.replicate 2 (0 : Int)))]⟩) [1, 2, 6] [0, 1] ?_
        refine At.lp (fun s : (Int) => ⟨[(1, .ptr 0 0), (2, .ptr 1 0), (6, i64 s)], [.blk 27 (T_api_Code.pvs p0), .dblk 46 (encL (eInt .i64) (List.replicate 2 (0 : Int)))]⟩) h ?_
        intro x231 oo232 h f233
        replace h : F_retraceref20_Check_L3 p0 x231 = some oo232 := h
        refine At.seq ?_
        refine At.sR [1, 2, 6, 59] [0, 1] [] ?_
        refine At.cd h (fun b235 h => ?_) (fun b235 h => ?_)
        · refine At.nR [1, 2, 6] [0, 1] ?_
          refine At.skip (norm ?_)
          refine At.seq ?_
          refine At.block ?_
          obtain ⟨y242, hy242, h⟩ := bs h
          refine At.sR [1, 2, 6, 8] [0, 1] [cT 2 0 [2] (C_retraceref20_Flow p0 x231 y242 hy242)] ?_
          refine At.sR [1, 2, 6, 8, 69] [0, 1] [] ?_
          refine At.cd h (fun b243 h => ?_) (fun b243 h => ?_)
          · obtain ⟨g245, h⟩ := gs h
            refine At.sR [2] [1] [oN 2 (allc (lenN (he_int .i64) ([y242.2, 14] : List Int) g245.1) (allc (lenN (he_int .i64) (List.replicate 2 (0 : Int)) g245.2) all0))] ?_
            obtain ⟨r246, h, e247⟩ := mr h
            rw [f233 _ e247] at h
            obtain ⟨g248, h⟩ := gs h
            obtain rfl := sq h
            exact At.ret (At.rQ hR [] (allc (lenN (he_int .i64) ([y242.2, 14] : List Int) g248) all0))
          · refine At.nR [1, 2, 6] [0, 1] ?_
            refine At.skip (norm ?_)
            exact At.rK [1, 2, 6] [0, 1] [] fun _ _ i => ⟨_, li h, i⟩
        · refine At.nR [2] [1] ?_
          obtain ⟨r249, h, e250⟩ := mr h
          rw [f233 _ e250] at h
          refine At.exit (norm ?_)
          obtain ⟨g252, h⟩ := gs h
          refine At.sR [2] [0] [oN 1 (allc (lenN (he_int .i64) ([0, 0] : List Int) g252.1) (allc (lenN (he_int .i64) (List.replicate 2 (0 : Int)) g252.2) all0))] ?_
          obtain ⟨g253, h⟩ := gs h
          obtain rfl := sq h
          exact At.ret (At.rQ hR [] (allc (lenN (he_int .i64) ([0, 0] : List Int) g253) all0))
theorem C_retraceref21_Get (p0 : ByteArray) (r : T_retraceref21_Got) (h : F_retraceref21_Get p0 = some r) : FnOK Tryz.prog 10 [sv p0] [] (.agg (T_retraceref21_Got.pvs r)) [] [] := by
  refine fI Tryz.func10 rfl fun E gv R hR => ?_
  refine At.sR [0, 2] [0] [] ?_
  refine At.seq ?_
  refine At.seqJ (S := Bool) (fun s => ⟨[(0, sv p0), (2, .ptr 0 0), (21, bo s)], [.blk 35 [.d (.list true 0 []), .d (.list true 0 []), .d (.list true 0 []), i64 0, i64 0, i64 0]]⟩) (fun s => F_retraceref21_Get_J1 p0 s = some r) ?_ ?_
  · rcases cs h with ⟨b179, h⟩ | ⟨b179, h⟩
    · exact At.rK [0, 2, 21] [0] [bT 3 b179] fun _ _ i => ⟨true, h, i⟩
    · obtain ⟨g180, h⟩ := gs h
      exact At.rK [0, 2, 21] [0] [bT 3 b179, oT 5 g180] fun _ _ i => ⟨(!((p0.extract (Int.toNat 0) (Int.toNat 4)).toList == (⟨#[82, 84, 67, 49]⟩ : ByteArray).toList)), h, i⟩
  · intro x9 h
    refine At.cd h (fun b10 h => ?_) (fun b10 h => ?_)
    · refine At.sR [2] [0] [] ?_
      refine At.eN [.loO 0] [2] [0] ?_
      obtain rfl := sq h
      exact At.ret (At.rR hR [])
    · refine At.nR [0, 2] [0] ?_
      refine At.skip (norm ?_)
      obtain ⟨g12, h⟩ := gs h
      refine At.sR [2, 3] [0, 1] [oT 1 g12] ?_
      refine At.sR [2, 3, 4] [0, 1, 2] [] ?_
      obtain ⟨y14, hy14, h⟩ := bs h
      refine At.sR [2, 3, 4, 5] [0, 1, 2] [cT 1 1 [1] (C_retraceref03_Reader_Upto 32 (⟨(p0.extract (Int.toNat 4) (Int.toNat (p0.size : Int))), 0⟩ : T_retraceref03_Reader) y14 hy14)] ?_
      refine At.seq ?_
      refine At.sR [2, 3, 4, 5, 6] [0, 1, 2] [] ?_
      refine At.block ?_
      refine At.nK (st' := ⟨[(2, .ptr 0 0), (3, .ptr 1 0), (4, .ptr 2 0), (5, i64 y14.1), (6, i64 0)], [.blk 35 [.d (.list true 0 []), .d (.list true 0 []), .d (.list true 0 []), i64 0, i64 0, i64 0], .blk 78 (T_retraceref03_Reader.pvs y14.2), .blk 27 [.d (.list true 0 []), .d (.list true 0 []), .d (.list true 0 []), i64 0, i64 0]]⟩) [2, 3, 4, 5, 6] [0, 1, 2] ?_
      refine At.edNar [.ownO 2 1 61 4] [2, 3, 4, 5, 6] [0, 1, 2, 3] (st' := ⟨[(2, .ptr 0 0), (3, .ptr 1 0), (4, .ptr 2 0), (5, i64 y14.1), (6, i64 0)], [.blk 35 [.d (.list true 0 []), .d (.list true 0 []), .d (.list true 0 []), i64 0, i64 0, i64 0], .blk 78 (T_retraceref03_Reader.pvs y14.2), .blk 27 [.d (.list true 0 []), .row 3 ([] : List T_api_Def).length, .d (.list true 0 []), i64 0, i64 0], .row 61 4 (encL T_api_Def.enc ([]))]⟩) (by kernel_rfl) ?_
      refine At.lp (fun s : (Int × ByteArray × Int × (List T_api_Def)) => ⟨[(2, .ptr 0 0), (3, .ptr 1 0), (4, .ptr 2 0), (5, i64 y14.1), (6, i64 s.1)], [.blk 35 [.d (.list true 0 []), .d (.list true 0 []), .d (.list true 0 []), i64 0, i64 0, i64 0], .blk 78 [sv s.2.1, i64 s.2.2.1], .blk 27 [.d (.list true 0 []), .row 3 (s.2.2.2).length, .d (.list true 0 []), i64 0, i64 0], .row 61 4 (encL T_api_Def.enc s.2.2.2)]⟩) h ?_
      rintro ⟨x49, x50, x51, x52⟩ oo53 h f54
      replace h : F_retraceref21_Get_L5 y14 x49 x50 x51 x52 = some oo53 := h
      refine At.seq ?_
      refine At.seqJ (S := Bool) (fun s => ⟨[(2, .ptr 0 0), (3, .ptr 1 0), (4, .ptr 2 0), (5, i64 y14.1), (6, i64 x49), (38, bo s)], [.blk 35 [.d (.list true 0 []), .d (.list true 0 []), .d (.list true 0 []), i64 0, i64 0, i64 0], .blk 78 [sv x50, i64 x51], .blk 27 [.d (.list true 0 []), .row 3 (x52).length, .d (.list true 0 []), i64 0, i64 0], .row 61 4 (encL T_api_Def.enc x52)]⟩) (fun s => F_retraceref21_Get_J2 x49 x50 x51 x52 s = some oo53) ?_ ?_
      · rcases cs h with ⟨b178, h⟩ | ⟨b178, h⟩
        · exact At.rK [2, 3, 4, 5, 6, 38] [0, 1, 2, 3] [bT 3 b178] fun _ _ i => ⟨(x51 == 0), h, i⟩
        · exact At.rK [2, 3, 4, 5, 6, 38] [0, 1, 2, 3] [bT 3 b178] fun _ _ i => ⟨false, h, i⟩
      · intro x60 h
        refine At.cd h (fun b61 h => ?_) (fun b61 h => ?_)
        · refine At.nR [2, 3, 4, 5, 6] [0, 1, 2, 3] ?_
          refine At.skip (norm ?_)
          refine At.seq ?_
          refine At.block ?_
          refine At.sR [2, 3, 4, 5, 6, 7] [0, 1, 2, 3, 4] [] ?_
          obtain ⟨y72, hy72, h⟩ := bs h
          refine At.sR [2, 3, 4, 5, 6, 7] [0, 1, 2, 3, 4] [cT 1 1 [1] (C_retraceref03_Reader_Text 16 (⟨x50, x51⟩ : T_retraceref03_Reader) y72 hy72)] ?_
          obtain ⟨y74, hy74, h⟩ := bs h
          refine At.sR [2, 3, 4, 5, 6, 7] [0, 1, 2, 3, 4] [cT 1 1 [1] (C_retraceref03_Reader_Upto 65536 y72.2 y74 hy74)] ?_
          obtain ⟨y76, hy76, h⟩ := bs h
          refine At.sR [2, 3, 4, 5, 6, 7] [0, 1, 2, 3, 4] [cT 1 1 [1] (C_retraceref03_Reader_Upto 65536 y74.2 y76 hy76)] ?_
          refine At.seq ?_
          obtain ⟨y78, hy78, h⟩ := bs h
          refine At.rK (st' := ⟨[(2, .ptr 0 0), (3, .ptr 1 0), (4, .ptr 2 0), (5, i64 y14.1), (6, i64 x49), (7, .ptr 4 0)], [.blk 35 [.d (.list true 0 []), .d (.list true 0 []), .d (.list true 0 []), i64 0, i64 0, i64 0], .blk 78 (T_retraceref03_Reader.pvs y78.2), .blk 27 [.d (.list true 0 []), .row 3 (x52).length, .d (.list true 0 []), i64 0, i64 0], .row 61 4 (encL T_api_Def.enc x52), .blk 61 [sv y72.1, i64 y74.1, i64 y76.1, i64 y78.1]]⟩) [2, 3, 4, 5, 6, 7] [0, 1, 2, 3, 4] [cT 1 1 [1] (C_retraceref03_Reader_Upto 65536 y76.2 y78 hy78)] (norm ?_)
          obtain ⟨g79, h⟩ := gs h
          refine At.rG [2, 3, 4, 5, 6] [0, 1, 2, 3] [aT T_api_Def.enc_len 4 x52 ([(⟨y72.1, y74.1, y76.1, y78.1⟩ : T_api_Def)]) rfl g79] (norm ?_)
          exact At.rK [2, 3, 4, 5, 6] [0, 1, 2, 3] [] fun _ _ i => ⟨_, li h, i⟩
        · refine At.nR [2, 3, 4] [0, 1, 2, 3] ?_
          obtain ⟨r80, h, e81⟩ := mr h
          rw [f54 _ e81] at h
          refine At.exit (norm ?_)
          obtain ⟨y83, hy83, h⟩ := bs h
          refine At.sR [2, 3, 4, 5] [0, 1, 2, 3] [cT 1 1 [1] (C_retraceref03_Reader_Upto 64 (⟨x50, x51⟩ : T_retraceref03_Reader) y83 hy83)] ?_
          refine At.seq ?_
          refine At.sR [2, 3, 4, 5, 8] [0, 1, 2, 3] [] ?_
          refine At.block ?_
          refine At.nK (st' := ⟨[(2, .ptr 0 0), (3, .ptr 1 0), (4, .ptr 2 0), (5, i64 y83.1), (8, i64 0)], [.blk 35 [.d (.list true 0 []), .d (.list true 0 []), .d (.list true 0 []), i64 0, i64 0, i64 0], .blk 78 (T_retraceref03_Reader.pvs y83.2), .blk 27 [.d (.list true 0 []), .row 3 (x52).length, .d (.list true 0 []), i64 0, i64 0], .row 61 4 (encL T_api_Def.enc x52)]⟩) [2, 3, 4, 5, 8] [0, 1, 2, 3] ?_
          refine At.edNar [.ownO 2 2 65 3] [2, 3, 4, 5, 8] [0, 1, 2, 3, 4] (st' := ⟨[(2, .ptr 0 0), (3, .ptr 1 0), (4, .ptr 2 0), (5, i64 y83.1), (8, i64 0)], [.blk 35 [.d (.list true 0 []), .d (.list true 0 []), .d (.list true 0 []), i64 0, i64 0, i64 0], .blk 78 (T_retraceref03_Reader.pvs y83.2), .blk 27 [.d (.list true 0 []), .row 3 (x52).length, .row 4 ([] : List T_api_Chan).length, i64 0, i64 0], .row 61 4 (encL T_api_Def.enc x52), .row 65 3 (encL T_api_Chan.enc ([]))]⟩) (by kernel_rfl) ?_
          refine At.lp (fun s : (Int × ByteArray × Int × (List T_api_Chan)) => ⟨[(2, .ptr 0 0), (3, .ptr 1 0), (4, .ptr 2 0), (5, i64 y83.1), (8, i64 s.1)], [.blk 35 [.d (.list true 0 []), .d (.list true 0 []), .d (.list true 0 []), i64 0, i64 0, i64 0], .blk 78 [sv s.2.1, i64 s.2.2.1], .blk 27 [.d (.list true 0 []), .row 3 (x52).length, .row 4 (s.2.2.2).length, i64 0, i64 0], .row 61 4 (encL T_api_Def.enc x52), .row 65 3 (encL T_api_Chan.enc s.2.2.2)]⟩) h ?_
          rintro ⟨x114, x115, x116, x117⟩ oo118 h f119
          replace h : F_retraceref21_Get_L4 x52 y83 x114 x115 x116 x117 = some oo118 := h
          refine At.seq ?_
          refine At.seqJ (S := Bool) (fun s => ⟨[(2, .ptr 0 0), (3, .ptr 1 0), (4, .ptr 2 0), (5, i64 y83.1), (8, i64 x114), (70, bo s)], [.blk 35 [.d (.list true 0 []), .d (.list true 0 []), .d (.list true 0 []), i64 0, i64 0, i64 0], .blk 78 [sv x115, i64 x116], .blk 27 [.d (.list true 0 []), .row 3 (x52).length, .row 4 (x117).length, i64 0, i64 0], .row 61 4 (encL T_api_Def.enc x52), .row 65 3 (encL T_api_Chan.enc x117)]⟩) (fun s => F_retraceref21_Get_J3 x52 x114 x115 x116 x117 s = some oo118) ?_ ?_
          · rcases cs h with ⟨b177, h⟩ | ⟨b177, h⟩
            · exact At.rK [2, 3, 4, 5, 8, 70] [0, 1, 2, 3, 4] [bT 3 b177] fun _ _ i => ⟨(x116 == 0), h, i⟩
            · exact At.rK [2, 3, 4, 5, 8, 70] [0, 1, 2, 3, 4] [bT 3 b177] fun _ _ i => ⟨false, h, i⟩
          · intro x125 h
            refine At.cd h (fun b126 h => ?_) (fun b126 h => ?_)
            · refine At.nR [2, 3, 4, 5, 8] [0, 1, 2, 3, 4] ?_
              refine At.skip (norm ?_)
              refine At.seq ?_
              refine At.block ?_
              refine At.sR [2, 3, 4, 5, 8, 9] [0, 1, 2, 3, 4, 5] [] ?_
              obtain ⟨y135, hy135, h⟩ := bs h
              refine At.sR [2, 3, 4, 5, 8, 9] [0, 1, 2, 3, 4, 5] [cT 1 1 [1] (C_retraceref03_Reader_Text 16 (⟨x115, x116⟩ : T_retraceref03_Reader) y135 hy135)] ?_
              obtain ⟨y137, hy137, h⟩ := bs h
              refine At.sR [2, 3, 4, 5, 8, 9] [0, 1, 2, 3, 4, 5] [cT 1 1 [1] (C_retraceref03_Reader_Upto 65536 y135.2 y137 hy137)] ?_
              obtain ⟨y139, hy139, h⟩ := bs h
              refine At.sR [2, 3, 4, 5, 8, 9] [0, 1, 2, 3, 4, 5] [cT 1 1 [1] (C_retraceref03_Reader_Upto 65536 y137.2 y139 hy139)] ?_
              obtain ⟨g140, h⟩ := gs h
              refine At.rK (st' := ⟨[(2, .ptr 0 0), (3, .ptr 1 0), (4, .ptr 2 0), (5, i64 y83.1), (8, i64 x114)], [.blk 35 [.d (.list true 0 []), .d (.list true 0 []), .d (.list true 0 []), i64 0, i64 0, i64 0], .blk 78 (T_retraceref03_Reader.pvs y139.2), .blk 27 [.d (.list true 0 []), .row 3 (x52).length, .row 4 ((x117 ++ [(⟨y135.1, y137.1, y139.1⟩ : T_api_Chan)])).length, i64 0, i64 0], .row 61 4 (encL T_api_Def.enc x52), .row 65 3 (encL T_api_Chan.enc (x117 ++ [(⟨y135.1, y137.1, y139.1⟩ : T_api_Chan)]))]⟩) [2, 3, 4, 5, 8] [0, 1, 2, 3, 4] [aT T_api_Chan.enc_len 4 x117 ([(⟨y135.1, y137.1, y139.1⟩ : T_api_Chan)]) rfl g140] (norm ?_)
              exact At.rK [2, 3, 4, 5, 8] [0, 1, 2, 3, 4] [] fun _ _ i => ⟨_, li h, i⟩
            · refine At.nR [2, 3, 4] [0, 1, 2, 3, 4] ?_
              obtain ⟨r141, h, e142⟩ := mr h
              rw [f119 _ e142] at h
              refine At.exit (norm ?_)
              obtain ⟨y144, hy144, h⟩ := bs h
              refine At.sR [2, 3, 4] [0, 1, 2, 3, 4] [cT 1 1 [1] (C_retraceref03_Reader_Upto 65536 (⟨x115, x116⟩ : T_retraceref03_Reader) y144 hy144)] ?_
              obtain ⟨y146, hy146, h⟩ := bs h
              refine At.sR [2, 3, 4] [0, 1, 2, 3, 4] [cT 1 1 [1] (C_retraceref03_Reader_Upto 65536 y144.2 y146 hy146)] ?_
              obtain ⟨y148, hy148, h⟩ := bs h
              refine At.sR [2, 3, 4, 10] [0, 1, 2, 3, 4] [cT 1 1 [1] (C_retraceref03_Reader_Text 2097152 y146.2 y148 hy148)] ?_
              refine At.seq ?_
              obtain ⟨y153, hy153, h⟩ := bs h
              refine At.sR [2, 4, 10, 11] [0, 2, 3, 4] [cT 1 1 [1] (C_retraceref03_Reader_End y148.2 y153 hy153)] ?_
              refine At.seq ?_
              refine At.rK (st' := ⟨[(2, .ptr 0 0), (4, .ptr 1 0), (10, sv y148.1), (11, i64 y153), (99, bo (y153 != 0))], [.blk 35 [.d (.list true 0 []), .d (.list true 0 []), .d (.list true 0 []), i64 0, i64 0, i64 0], .blk 27 [.d (.list true 0 []), .row 2 (x52).length, .row 3 (x117).length, i64 y144.1, i64 y146.1], .row 61 4 (encL T_api_Def.enc x52), .row 65 3 (encL T_api_Chan.enc x117)]⟩) [2, 4, 10, 11, 99] [0, 1, 2, 3] [] (norm ?_)
              refine At.cd h (fun b154 h => ?_) (fun b154 h => ?_)
              · refine At.sR [2] [0] [] ?_
                refine At.eN [.loO 0] [2] [0] ?_
                obtain rfl := sq h
                exact At.ret (At.rR hR [])
              · refine At.nR [2, 4, 10] [0, 1, 2, 3] ?_
                refine At.skip (norm ?_)
                obtain ⟨y156, hy156, h⟩ := bs h
                refine At.sR [2, 4, 12] [0, 1, 2, 3, 4] [c0 1 (C_retraceref16_Get y148.1 y156 hy156)] ?_
                refine At.seq ?_
                refine At.sR [2, 4, 12, 106] [0, 1, 2, 3, 4] [] ?_
                refine At.cd h (fun b158 h => ?_) (fun b158 h => ?_)
                · refine At.sR [2] [0] [] ?_
                  refine At.eN [.loO 0] [2] [0] ?_
                  obtain rfl := sq h
                  exact At.ret (At.rR hR [])
                · refine At.nR [2, 4, 12] [0, 1, 2, 3, 4] ?_
                  refine At.skip (norm ?_)
                  refine At.sR [2, 4] [0, 1, 2, 3] [] ?_
                  refine At.seq ?_
                  refine At.seq ?_
                  obtain ⟨y170, hy170, h⟩ := bs h
                  obtain ⟨g171, h⟩ := gs h
                  refine At.rK (st' := ⟨[(2, .ptr 0 0), (4, .ptr 1 0), (13, .ptr 2 0)], [.blk 35 [.d (.list true 0 []), .d (.list true 0 []), .d (.list true 0 []), i64 0, i64 0, i64 0], .blk 27 [lv T_api_Ins.enc y156.L, lv T_api_Def.enc x52, lv T_api_Chan.enc x117, i64 y144.1, i64 y146.1], .dblk 46 (encL (eInt .i64) y170)]⟩) [2, 4, 13] [0, 1, 4] [cX 1 0 [] [2, 3] true (C_retraceref20_Check (⟨y156.L, x52, x117, y144.1, y146.1⟩ : T_api_Code) y170 hy170), oN 3 (allc (lenN (he_int .i64) y170 g171.1) (allc (lenN (he_int .i64) (List.replicate 2 (0 : Int)) g171.2) all0))] (norm ?_)
                  obtain ⟨y173, hy173, h⟩ := bs h
                  refine At.sR [2, 4, 13, 117] [0, 1, 2] [oT 0 ((aAt_of (he_int .i64) (d := .int .i64 y173) hy173 rfl).1), vT 1 (.int .i64 y173) ((aAt_of (he_int .i64) (d := .int .i64 y173) hy173 rfl).2)] ?_
                  refine At.cd h (fun b174 h => ?_) (fun b174 h => ?_)
                  · obtain ⟨y176, hy176, h⟩ := bs h
                    refine At.sR [2] [0] [oT 0 ((aAt_of (he_int .i64) (d := .int .i64 y176) hy176 rfl).1), vT 1 (.int .i64 y176) ((aAt_of (he_int .i64) (d := .int .i64 y176) hy176 rfl).2)] ?_
                    refine At.eN [.loO 0] [2] [0] ?_
                    obtain rfl := sq h
                    exact At.ret (At.rR hR [])
                  · refine At.nR [2, 4] [0, 1] ?_
                    refine At.skip (norm ?_)
                    refine At.sR [2] [0] [] ?_
                    obtain rfl := sq h
                    exact At.ret (At.rR hR [])
theorem C_retracelaw21_ImageGets (p0 : ByteArray) (p1 : Bool) (r : Bool) (h : F_retracelaw21_ImageGets p0 p1 = some r) : FnOK Tryz.prog 3 [sv p0, bo p1] [] (bo r) [] [] := by
  refine fI Tryz.func3 rfl fun E gv R hR => ?_
  refine At.sR [0, 1] [] [] ?_
  refine At.seq ?_
  refine At.sR [0, 1, 15] [] [] ?_
  refine At.cd h (fun b4 h => ?_) (fun b4 h => ?_)
  · obtain ⟨y6, hy6, h⟩ := bs h
    refine At.sR [4] [] [c0 0 (C_retracelaw21_live y6 hy6)] ?_
    obtain rfl := sq h
    exact At.ret (At.rR hR [])
  · refine At.nR [0, 1] [] ?_
    refine At.skip (norm ?_)
    refine At.seq ?_
    refine At.sR [0, 18] [] [] ?_
    refine At.cd h (fun b39 h => ?_) (fun b39 h => ?_)
    · obtain ⟨y41, hy41, h⟩ := bs h
      refine At.sR [0, 6] [] [c0 1 (C_image_Get p0 y41 hy41)] ?_
      refine At.seq ?_
      refine At.seq ?_
      refine At.rK (st' := ⟨[(0, sv p0), (6, i64 y41.2), (26, bo (decide ((p0.size : Int) < 4)))], []⟩) [0, 6, 26] [] [] (norm ?_)
      refine At.cd h (fun b48 h => ?_) (fun b48 h => ?_)
      · refine At.seqJ (S := Bool) (fun s => ⟨[(4, bo s)], []⟩) (fun s => F_retracelaw21_ImageGets_J1 s = some r) ?_ ?_
        · rcases cs h with ⟨b52, h⟩ | ⟨b52, h⟩
          · obtain ⟨y53, hy53, h⟩ := bs h
            exact At.rK [4] [] [bT 2 b52, c0 3 (C_retracelaw21_live y53 hy53)] fun _ _ i => ⟨y53, h, i⟩
          · exact At.rK [4] [] [bT 2 b52] fun _ _ i => ⟨false, h, i⟩
        · intro x51 h
          obtain rfl := sq h
          exact At.ret (At.rR hR [])
      · refine At.nR [0, 6] [] ?_
        refine At.skip (norm ?_)
        refine At.seqJ (S := Bool) (fun s => ⟨[(4, bo s)], []⟩) (fun s => F_retracelaw21_ImageGets_J2 s = some r) ?_ ?_
        · obtain ⟨g63, h⟩ := gs h
          obtain ⟨y64, hy64, h⟩ := bs h
          obtain ⟨y65, hy65, h⟩ := bs h
          obtain ⟨g66, h⟩ := gs h
          rcases cs h with ⟨b67, h⟩ | ⟨b67, h⟩
          · obtain ⟨y68, hy68, h⟩ := bs h
            exact At.dK 0 [4] [] [oT 4 g63, c0 5 (C_retraceref02_Sum (p0.extract (Int.toNat 0) (Int.toNat (w64 ((p0.size : Int) - 4)))) y64 hy64), c0 6 (C_retraceref02_Bytes y64 y65 hy65), oT 11 g66, bT 13 b67, c0 18 (C_retracelaw21_live y68 hy68)] fun _ _ i => ⟨y68, h, i⟩
          · rcases cs h with ⟨b69, h⟩ | ⟨b69, h⟩
            · obtain ⟨y70, hy70, h⟩ := bs h
              exact At.dK 0 [4] [] [oT 4 g63, c0 5 (C_retraceref02_Sum (p0.extract (Int.toNat 0) (Int.toNat (w64 ((p0.size : Int) - 4)))) y64 hy64), c0 6 (C_retraceref02_Bytes y64 y65 hy65), oT 11 g66, bT 13 b67, bT 17 b69, c0 18 (C_retracelaw21_live y70 hy70)] fun _ _ i => ⟨y70, h, i⟩
            · exact At.dK 0 [4] [] [oT 4 g63, c0 5 (C_retraceref02_Sum (p0.extract (Int.toNat 0) (Int.toNat (w64 ((p0.size : Int) - 4)))) y64 hy64), c0 6 (C_retraceref02_Bytes y64 y65 hy65), oT 11 g66, bT 13 b67, bT 17 b69] fun _ _ i => ⟨false, h, i⟩
        · intro x62 h
          obtain rfl := sq h
          exact At.ret (At.rR hR [])
    · refine At.nR [0] [] ?_
      refine At.skip (norm ?_)
      refine At.seq ?_
      obtain ⟨y74, hy74, h⟩ := bs h
      obtain ⟨y75, hy75, h⟩ := bs h
      obtain ⟨g76, h⟩ := gs h
      refine At.rK (st' := ⟨[(0, sv p0), (7, sv (p0 ++ y75))], []⟩) [0, 7] [] [c0 2 (C_retraceref02_Sum p0 y74 hy74), c0 3 (C_retraceref02_Bytes y74 y75 hy75), oT 4 g76] (norm ?_)
      obtain ⟨y78, hy78, h⟩ := bs h
      refine At.sR [0, 7, 8, 9] [0] [c0 1 (C_image_Get (p0 ++ y75) y78 hy78)] ?_
      obtain ⟨y80, hy80, h⟩ := bs h
      refine At.sR [7, 8, 9, 10] [0, 1] [c0 1 (C_retraceref21_Get p0 y80 hy80)] ?_
      refine At.seq ?_
      refine At.seqJ (S := Bool) (fun s => ⟨[(7, sv (p0 ++ y75)), (8, .ptr 0 0), (9, i64 y78.2), (74, bo s)], [.blk 27 (T_api_Code.pvs y78.1)]⟩) (fun s => F_retracelaw21_ImageGets_J3 p0 y75 y78 s = some r) ?_ ?_
      · rcases cs h with ⟨b106, h⟩ | ⟨b106, h⟩
        · exact At.rK [7, 8, 9, 74] [0] [bT 4 b106] fun _ _ i => ⟨true, h, i⟩
        · obtain ⟨y107, hy107, h⟩ := bs h
          exact At.rK [7, 8, 9, 74] [0] [bT 4 b106, c0 8 (C_retraceref19_Same y78.1 y80.C y107 hy107)] fun _ _ i => ⟨(!y107), h, i⟩
      · intro x89 h
        refine At.cd h (fun b90 h => ?_) (fun b90 h => ?_)
        · refine At.sR [4] [] [] ?_
          obtain rfl := sq h
          exact At.ret (At.rR hR [])
        · refine At.nR [7, 8, 9] [0] ?_
          refine At.skip (norm ?_)
          refine At.seq ?_
          refine At.sR [7, 8, 76] [0] [] ?_
          refine At.cd h (fun b94 h => ?_) (fun b94 h => ?_)
          · obtain ⟨y96, hy96, h⟩ := bs h
            refine At.sR [4] [] [c0 0 (C_retracelaw21_live y96 hy96)] ?_
            obtain rfl := sq h
            exact At.ret (At.rR hR [])
          · refine At.nR [7, 8] [0] ?_
            refine At.skip (norm ?_)
            obtain ⟨y98, hy98, h⟩ := bs h
            refine At.sR [7, 11, 12] [] [c0 1 (C_image_Put y78.1 y98 hy98)] ?_
            refine At.seqJ (S := Bool) (fun s => ⟨[(4, bo s)], []⟩) (fun s => F_retracelaw21_ImageGets_J4 s = some r) ?_ ?_
            · rcases cs h with ⟨b103, h⟩ | ⟨b103, h⟩
              · rcases cs h with ⟨b104, h⟩ | ⟨b104, h⟩
                · obtain ⟨y105, hy105, h⟩ := bs h
                  exact At.rK [4] [] [bT 3 b103, bT 7 b104, c0 8 (C_retracelaw21_live y105 hy105)] fun _ _ i => ⟨y105, h, i⟩
                · exact At.rK [4] [] [bT 3 b103, bT 7 b104] fun _ _ i => ⟨false, h, i⟩
              · exact At.rK [4] [] [bT 3 b103] fun _ _ i => ⟨false, h, i⟩
            · intro x102 h
              obtain rfl := sq h
              exact At.ret (At.rR hR [])
end Go.Ab
