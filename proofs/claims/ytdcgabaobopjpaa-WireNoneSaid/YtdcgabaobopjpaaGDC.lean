import Derived.Test.YtdcgabaobopjpaaGD2
namespace Go.Ab
open Go.Proofs
set_option linter.unusedVariables false
set_option maxRecDepth 100000 in
theorem C_R_retracelaw04_FrameAll_0 (p0 : Int) (p1 : T_api_Frame) (o1_0 : Int) (o2_0 : Bool) (o3 : T_retraceref04_List) (o6_0 : Int) (o5 : (List Int)) (r : (Bool) ⊕ (Int) ⊕ (Int)) (h : F_R_retracelaw04_FrameAll_0 p0 p1 o1_0 o2_0 o3 o6_0 o5 = some r) : RdOK Try.prog 0 [i64 p0, .agg (T_api_Frame.pvs p1)] [.loop #[59, 60] as_retracelaw04_FrameAll_0 bd_retracelaw04_FrameAll_0 101 [3, 4, 8, 10, 12] [.ptr 1 0, .ptr 2 0, .ptr 3 0, .ptr 4 0, .ptr 6 0] .ready none, .blk 3 [i64 o1_0], .blk 4 [bo o2_0], .blk 70 (T_retraceref04_List.pvs o3), .blk 31 [.row 5 (o5).length], .row 3 1 (encL (eInt .i64) o5), .blk 3 [i64 o6_0]] ((Sum.elim (fun r => bo false) (Sum.elim (fun r => bo false) (fun r => bo true))) r) ((Sum.elim (fun r => [.loop #[59, 60] as_retracelaw04_FrameAll_0 bd_retracelaw04_FrameAll_0 101 [3, 4, 8, 10, 12] [.ptr 1 0, .ptr 2 0, .ptr 3 0, .ptr 4 0, .ptr 6 0] .done (some .ret), .blk 3 [i64 o1_0], .blk 4 [bo r], .blk 70 (T_retraceref04_List.pvs o3), .blk 31 [.row 5 (o5).length], .row 3 1 (encL (eInt .i64) o5), .blk 3 [i64 o6_0]]) (Sum.elim (fun r => [.loop #[59, 60] as_retracelaw04_FrameAll_0 bd_retracelaw04_FrameAll_0 101 [3, 4, 8, 10, 12] [.ptr 1 0, .ptr 2 0, .ptr 3 0, .ptr 4 0, .ptr 6 0] .done (some (.exit 0)), .blk 3 [i64 o1_0], .blk 4 [bo o2_0], .blk 70 (T_retraceref04_List.pvs o3), .blk 31 [.row 5 (o5).length], .row 3 1 (encL (eInt .i64) o5), .blk 3 [i64 r]]) (fun r => [.loop #[59, 60] as_retracelaw04_FrameAll_0 bd_retracelaw04_FrameAll_0 101 [3, 4, 8, 10, 12] [.ptr 1 0, .ptr 2 0, .ptr 3 0, .ptr 4 0, .ptr 6 0] .ready none, .blk 3 [i64 o1_0], .blk 4 [bo o2_0], .blk 70 (T_retraceref04_List.pvs o3), .blk 31 [.row 5 (o5).length], .row 3 1 (encL (eInt .i64) o5), .blk 3 [i64 r]]))) r) [1, 3, 5, 7, 9, 10, 13] := by
  rw [F_R_retracelaw04_FrameAll_0] at h
  refine RdOK.intro (i := 0) rfl (by kernel_rfl) fun E gv l R hR => ?_
  refine At.eqv (st2 := ⟨[(59, i64 p0), (60, .agg (T_api_Frame.pvs p1)), (3, .ptr 1 0), (4, .ptr 2 0), (8, .ptr 3 0), (10, .ptr 4 0), (12, .ptr 6 0)], [.loop #[59, 60] as_retracelaw04_FrameAll_0 bd_retracelaw04_FrameAll_0 101 [3, 4, 8, 10, 12] [.ptr 1 0, .ptr 2 0, .ptr 3 0, .ptr 4 0, .ptr 6 0] .ready none, .blk 3 [i64 o1_0], .blk 4 [bo o2_0], .blk 70 (T_retraceref04_List.pvs o3), .blk 31 [.row 5 (o5).length], .row 3 1 (encL (eInt .i64) o5), .blk 3 [i64 o6_0], .ghost (gv 0) (.ptr 0 0), .ghost (gv 1) (.ptr 1 0), .ghost (gv 2) (.ptr 2 0), .ghost (gv 3) (.ptr 3 0), .ghost (gv 4) (.ptr 4 0), .ghost (gv 5) (.row 5 0), .ghost (gv 6) (.ptr 6 0), .ghost (yieldV l) (.yld 0)]⟩) rfl ?_
  refine At.seq ?_
  refine At.region_end [3, 4, 8, 10, 12, 13, 60] [0, 1, 2, 3, 4, 5, 6, 7, 8, 9, 10, 11, 12, 13, 14] _ (st' := ⟨[(3, .ptr 1 0), (4, .ptr 2 0), (8, .ptr 3 0), (10, .ptr 4 0), (12, .ptr 6 0), (13, i64 p0), (60, .agg (T_api_Frame.pvs p1))], [.loop #[59, 60] as_retracelaw04_FrameAll_0 bd_retracelaw04_FrameAll_0 101 [3, 4, 8, 10, 12] [.ptr 1 0, .ptr 2 0, .ptr 3 0, .ptr 4 0, .ptr 6 0] .ready none, .blk 3 [i64 o1_0], .blk 4 [bo o2_0], .blk 70 (T_retraceref04_List.pvs o3), .blk 31 [.row 5 (o5).length], .row 3 1 (encL (eInt .i64) o5), .blk 3 [i64 o6_0], .ghost (gv 0) (.ptr 0 0), .ghost (gv 1) (.ptr 1 0), .ghost (gv 2) (.ptr 2 0), .ghost (gv 3) (.ptr 3 0), .ghost (gv 4) (.ptr 4 0), .ghost (gv 5) (.row 5 0), .ghost (gv 6) (.ptr 6 0), .ghost (yieldV l) (.yld 0)]⟩) (tips := []) (by kernel_rfl) all0 (norm ?_)
  refine At.region_end [3, 4, 8, 10, 12, 13, 14] [0, 1, 2, 3, 4, 5, 6, 7, 8, 9, 10, 11, 12, 13, 14, 15] _ (st' := ⟨[(3, .ptr 1 0), (4, .ptr 2 0), (8, .ptr 3 0), (10, .ptr 4 0), (12, .ptr 6 0), (13, i64 p0), (14, .ptr 15 0)], [.loop #[59, 60] as_retracelaw04_FrameAll_0 bd_retracelaw04_FrameAll_0 101 [3, 4, 8, 10, 12] [.ptr 1 0, .ptr 2 0, .ptr 3 0, .ptr 4 0, .ptr 6 0] .ready none, .blk 3 [i64 o1_0], .blk 4 [bo o2_0], .blk 70 (T_retraceref04_List.pvs o3), .blk 31 [.row 5 (o5).length], .row 3 1 (encL (eInt .i64) o5), .blk 3 [i64 o6_0], .ghost (gv 0) (.ptr 0 0), .ghost (gv 1) (.ptr 1 0), .ghost (gv 2) (.ptr 2 0), .ghost (gv 3) (.ptr 3 0), .ghost (gv 4) (.ptr 4 0), .ghost (gv 5) (.row 5 0), .ghost (gv 6) (.ptr 6 0), .ghost (yieldV l) (.yld 0), .blk 53 (T_api_Frame.pvs p1)]⟩) (tips := []) (by kernel_rfl) all0 (begin_ok (i := 0) (k := 14) (st' := ⟨[(3, .ptr 1 0), (4, .ptr 2 0), (8, .ptr 3 0), (10, .ptr 4 0), (12, .ptr 6 0), (13, i64 p0), (14, .ptr 15 0)], [.loop #[59, 60] as_retracelaw04_FrameAll_0 bd_retracelaw04_FrameAll_0 101 [3, 4, 8, 10, 12] [.ptr 1 0, .ptr 2 0, .ptr 3 0, .ptr 4 0, .ptr 6 0] .busy none, .blk 3 [i64 o1_0], .blk 4 [bo o2_0], .blk 70 (T_retraceref04_List.pvs o3), .blk 31 [.row 5 (o5).length], .row 3 1 (encL (eInt .i64) o5), .blk 3 [i64 o6_0], .ghost (gv 0) (.ptr 0 0), .ghost (gv 1) (.ptr 1 0), .ghost (gv 2) (.ptr 2 0), .ghost (gv 3) (.ptr 3 0), .ghost (gv 4) (.ptr 4 0), .ghost (gv 5) (.row 5 0), .ghost (gv 6) (.ptr 6 0), .ghost (yieldV l) (.yld 0), .blk 53 (T_api_Frame.pvs p1)]⟩) (by kernel_rfl) rfl ?_)
  refine At.block ?_
  refine At.seq ?_
  refine At.seqJ (S := Bool) (fun s => ⟨[(3, .ptr 1 0), (4, .ptr 2 0), (12, .ptr 6 0), (82, bo s)], [.loop #[59, 60] as_retracelaw04_FrameAll_0 bd_retracelaw04_FrameAll_0 101 [3, 4, 8, 10, 12] [.ptr 1 0, .ptr 2 0, .ptr 3 0, .ptr 4 0, .ptr 6 0] .busy none, .blk 3 [i64 o1_0], .blk 4 [bo o2_0], .blk 70 (T_retraceref04_List.pvs o3), .blk 31 [.row 5 (o5).length], .row 3 1 (encL (eInt .i64) o5), .blk 3 [i64 o6_0], .ghost (gv 0) (.ptr 0 0), .ghost (gv 1) (.ptr 1 0), .ghost (gv 2) (.ptr 2 0), .ghost (gv 3) (.ptr 3 0), .ghost (gv 4) (.ptr 4 0), .ghost (gv 5) (.row 5 0), .ghost (gv 6) (.ptr 6 0), .ghost (yieldV l) (.yld 0)]⟩) (fun s => F_R_retracelaw04_FrameAll_0_J1 o1_0 o6_0 s = some r) ?_ ?_
  · rcases tf (decide (((o3.L).length : Int) ≤ o6_0)) with b18 | b18
    · replace h := cond_t b18 h
      refine At.draw_end mixedOrd 0 [3, 4, 12, 82] [0, 1, 2, 3, 4, 5, 6, 7, 8, 9, 10, 11, 12, 13, 14] _ (st' := ⟨[(3, .ptr 1 0), (4, .ptr 2 0), (12, .ptr 6 0), (82, bo true)], [.loop #[59, 60] as_retracelaw04_FrameAll_0 bd_retracelaw04_FrameAll_0 101 [3, 4, 8, 10, 12] [.ptr 1 0, .ptr 2 0, .ptr 3 0, .ptr 4 0, .ptr 6 0] .busy none, .blk 3 [i64 o1_0], .blk 4 [bo o2_0], .blk 70 (T_retraceref04_List.pvs o3), .blk 31 [.row 5 (o5).length], .row 3 1 (encL (eInt .i64) o5), .blk 3 [i64 o6_0], .ghost (gv 0) (.ptr 0 0), .ghost (gv 1) (.ptr 1 0), .ghost (gv 2) (.ptr 2 0), .ghost (gv 3) (.ptr 3 0), .ghost (gv 4) (.ptr 4 0), .ghost (gv 5) (.row 5 0), .ghost (gv 6) (.ptr 6 0), .ghost (yieldV l) (.yld 0)]⟩) (tips := [(0, { T := [6], r := 16 }), (1, { r := 16 }), (2, { T := [3], r := 16 }), (3, { r := 16 }), (5, { tip := { orc := .val (.bool true) } }), (6, { T := [15], r := 16 }), (7, { r := 16 }), (9, { T := [6], r := 16 }), (16, { T := [4], r := 16 }), (17, { T := [6], r := 16 })]) (by kernel_rfl) (allc (congrArg D.bool b18) all0) (fun a w hs => ⟨true, h, hs⟩)
    · replace h := cond_f b18 h
      obtain ⟨y19, hy19, h⟩ := bind_some h
      rcases tf (!((p1.Kind == y19.Kind) && ((p1.Data.toList == y19.Data.toList) && true))) with b20 | b20
      · replace h := cond_t b20 h
        refine At.draw_end mixedOrd 0 [3, 4, 12, 82] [0, 1, 2, 3, 4, 5, 6, 7, 8, 9, 10, 11, 12, 13, 14] _ (st' := ⟨[(3, .ptr 1 0), (4, .ptr 2 0), (12, .ptr 6 0), (82, bo true)], [.loop #[59, 60] as_retracelaw04_FrameAll_0 bd_retracelaw04_FrameAll_0 101 [3, 4, 8, 10, 12] [.ptr 1 0, .ptr 2 0, .ptr 3 0, .ptr 4 0, .ptr 6 0] .busy none, .blk 3 [i64 o1_0], .blk 4 [bo o2_0], .blk 70 (T_retraceref04_List.pvs o3), .blk 31 [.row 5 (o5).length], .row 3 1 (encL (eInt .i64) o5), .blk 3 [i64 o6_0], .ghost (gv 0) (.ptr 0 0), .ghost (gv 1) (.ptr 1 0), .ghost (gv 2) (.ptr 2 0), .ghost (gv 3) (.ptr 3 0), .ghost (gv 4) (.ptr 4 0), .ghost (gv 5) (.row 5 0), .ghost (gv 6) (.ptr 6 0), .ghost (yieldV l) (.yld 0)]⟩) (tips := [(0, { T := [6], r := 16 }), (1, { r := 16 }), (2, { T := [3], r := 16 }), (3, { r := 16 }), (5, { tip := { orc := .val (.bool false) } }), (6, { T := [15], r := 16 }), (7, { r := 16 }), (8, { T := [3], r := 16 }), (9, { T := [6], r := 16 }), (10, { tip := { orc := .cells (T_api_Frame.enc y19) } }), (14, { tip := { orc := .val (.bool true) } }), (16, { T := [4], r := 16 }), (17, { T := [6], r := 16 })]) (by kernel_rfl) (allc (congrArg D.bool b18) (allc (elemAt_of T_api_Frame.enc_len hy19) (allc (congrArg D.bool b20) all0))) (fun a w hs => ⟨true, h, hs⟩)
      · replace h := cond_f b20 h
        obtain ⟨y21, hy21, h⟩ := bind_some h
        refine At.draw_end mixedOrd 0 [3, 4, 12, 82] [0, 1, 2, 3, 4, 5, 6, 7, 8, 9, 10, 11, 12, 13, 14] _ (st' := ⟨[(3, .ptr 1 0), (4, .ptr 2 0), (12, .ptr 6 0), (82, bo (p0 != y21))], [.loop #[59, 60] as_retracelaw04_FrameAll_0 bd_retracelaw04_FrameAll_0 101 [3, 4, 8, 10, 12] [.ptr 1 0, .ptr 2 0, .ptr 3 0, .ptr 4 0, .ptr 6 0] .busy none, .blk 3 [i64 o1_0], .blk 4 [bo o2_0], .blk 70 (T_retraceref04_List.pvs o3), .blk 31 [.row 5 (o5).length], .row 3 1 (encL (eInt .i64) o5), .blk 3 [i64 o6_0], .ghost (gv 0) (.ptr 0 0), .ghost (gv 1) (.ptr 1 0), .ghost (gv 2) (.ptr 2 0), .ghost (gv 3) (.ptr 3 0), .ghost (gv 4) (.ptr 4 0), .ghost (gv 5) (.row 5 0), .ghost (gv 6) (.ptr 6 0), .ghost (yieldV l) (.yld 0)]⟩) (tips := [(0, { T := [6], r := 16 }), (1, { r := 16 }), (2, { T := [3], r := 16 }), (3, { r := 16 }), (5, { tip := { orc := .val (.bool false) } }), (6, { T := [15], r := 16 }), (7, { r := 16 }), (8, { T := [3], r := 16 }), (9, { T := [6], r := 16 }), (10, { tip := { orc := .cells (T_api_Frame.enc y19) } }), (14, { tip := { orc := .val (.bool false) } }), (16, { T := [4], r := 16 }), (17, { T := [6], r := 16 }), (18, { r := 16 }), (19, { tip := { orc := .val (.int .i64 y21) }, T := [5], r := 16 })]) (by kernel_rfl) (allc (congrArg D.bool b18) (allc (elemAt_of T_api_Frame.enc_len hy19) (allc (congrArg D.bool b20) (allc ((rAt_of (he_int .i64) (d := .int .i64 y21) hy21 rfl).1) (allc ((rAt_of (he_int .i64) (d := .int .i64 y21) hy21 rfl).2) all0))))) (fun a w hs => ⟨(p0 != y21), h, hs⟩)
  · intro x15 h
    replace h : F_R_retracelaw04_FrameAll_0_J1 o1_0 o6_0 x15 = some r := h
    rw [F_R_retracelaw04_FrameAll_0_J1] at h
    refine At.cond x15 (by kernel_rfl) (fun b16 => ?_) (fun b16 => ?_)
    · replace h := cond_t b16 h
      refine At.seq ?_
      refine At.region_end [] [0, 1, 2, 3, 4, 5, 6, 7, 8, 9, 10, 11, 12, 13, 14] _ (st' := ⟨[], [.loop #[59, 60] as_retracelaw04_FrameAll_0 bd_retracelaw04_FrameAll_0 101 [3, 4, 8, 10, 12] [.ptr 1 0, .ptr 2 0, .ptr 3 0, .ptr 4 0, .ptr 6 0] .busy none, .blk 3 [i64 o1_0], .blk 4 [bo false], .blk 70 (T_retraceref04_List.pvs o3), .blk 31 [.row 5 (o5).length], .row 3 1 (encL (eInt .i64) o5), .blk 3 [i64 o6_0], .ghost (gv 0) (.ptr 0 0), .ghost (gv 1) (.ptr 1 0), .ghost (gv 2) (.ptr 2 0), .ghost (gv 3) (.ptr 3 0), .ghost (gv 4) (.ptr 4 0), .ghost (gv 5) (.row 5 0), .ghost (gv 6) (.ptr 6 0), .ghost (yieldV l) (.yld 0)]⟩) (tips := []) (by kernel_rfl) all0 (norm ?_)
      obtain rfl := some_eq h
      exact At.ret (round_fin hR (i := 0) (k := 14) (ρ := [0, 1, 2, 3, 4, 5, 6]) (jump := (some .ret)) (gs := [.ghost (gv 0) (.ptr 0 0), .ghost (gv 1) (.ptr 1 0), .ghost (gv 2) (.ptr 2 0), .ghost (gv 3) (.ptr 3 0), .ghost (gv 4) (.ptr 4 0), .ghost (gv 5) (.row 5 0), .ghost (gv 6) (.ptr 6 0)]) (by kernel_rfl) rfl (by kernel_rfl) rfl rfl rfl)
    · replace h := cond_f b16 h
      refine At.nar [3, 12] [0, 1, 2, 3, 4, 5, 6, 7, 8, 9, 10, 11, 12, 13, 14] (st' := ⟨[(3, .ptr 1 0), (12, .ptr 6 0)], [.loop #[59, 60] as_retracelaw04_FrameAll_0 bd_retracelaw04_FrameAll_0 101 [3, 4, 8, 10, 12] [.ptr 1 0, .ptr 2 0, .ptr 3 0, .ptr 4 0, .ptr 6 0] .busy none, .blk 3 [i64 o1_0], .blk 4 [bo o2_0], .blk 70 (T_retraceref04_List.pvs o3), .blk 31 [.row 5 (o5).length], .row 3 1 (encL (eInt .i64) o5), .blk 3 [i64 o6_0], .ghost (gv 0) (.ptr 0 0), .ghost (gv 1) (.ptr 1 0), .ghost (gv 2) (.ptr 2 0), .ghost (gv 3) (.ptr 3 0), .ghost (gv 4) (.ptr 4 0), .ghost (gv 5) (.row 5 0), .ghost (gv 6) (.ptr 6 0), .ghost (yieldV l) (.yld 0)]⟩) (by kernel_rfl) ?_
      refine At.skip (norm ?_)
      refine At.seq ?_
      refine At.region_end [3, 12] [0, 1, 2, 3, 4, 5, 6, 7, 8, 9, 10, 11, 12, 13, 14] _ (st' := ⟨[(3, .ptr 1 0), (12, .ptr 6 0)], [.loop #[59, 60] as_retracelaw04_FrameAll_0 bd_retracelaw04_FrameAll_0 101 [3, 4, 8, 10, 12] [.ptr 1 0, .ptr 2 0, .ptr 3 0, .ptr 4 0, .ptr 6 0] .busy none, .blk 3 [i64 o1_0], .blk 4 [bo o2_0], .blk 70 (T_retraceref04_List.pvs o3), .blk 31 [.row 5 (o5).length], .row 3 1 (encL (eInt .i64) o5), .blk 3 [i64 (w64 (o6_0 + 1))], .ghost (gv 0) (.ptr 0 0), .ghost (gv 1) (.ptr 1 0), .ghost (gv 2) (.ptr 2 0), .ghost (gv 3) (.ptr 3 0), .ghost (gv 4) (.ptr 4 0), .ghost (gv 5) (.row 5 0), .ghost (gv 6) (.ptr 6 0), .ghost (yieldV l) (.yld 0)]⟩) (tips := []) (by kernel_rfl) all0 (norm ?_)
      refine At.seq ?_
      refine At.region_end [87] [0, 1, 2, 3, 4, 5, 6, 7, 8, 9, 10, 11, 12, 13, 14] _ (st' := ⟨[(87, bo ((w64 (o6_0 + 1)) == o1_0))], [.loop #[59, 60] as_retracelaw04_FrameAll_0 bd_retracelaw04_FrameAll_0 101 [3, 4, 8, 10, 12] [.ptr 1 0, .ptr 2 0, .ptr 3 0, .ptr 4 0, .ptr 6 0] .busy none, .blk 3 [i64 o1_0], .blk 4 [bo o2_0], .blk 70 (T_retraceref04_List.pvs o3), .blk 31 [.row 5 (o5).length], .row 3 1 (encL (eInt .i64) o5), .blk 3 [i64 (w64 (o6_0 + 1))], .ghost (gv 0) (.ptr 0 0), .ghost (gv 1) (.ptr 1 0), .ghost (gv 2) (.ptr 2 0), .ghost (gv 3) (.ptr 3 0), .ghost (gv 4) (.ptr 4 0), .ghost (gv 5) (.row 5 0), .ghost (gv 6) (.ptr 6 0), .ghost (yieldV l) (.yld 0)]⟩) (tips := []) (by kernel_rfl) all0 (norm ?_)
      refine At.cond ((w64 (o6_0 + 1)) == o1_0) (by kernel_rfl) (fun b17 => ?_) (fun b17 => ?_)
      · replace h := cond_t b17 h
        refine At.nar [] [0, 1, 2, 3, 4, 5, 6, 7, 8, 9, 10, 11, 12, 13, 14] (st' := ⟨[], [.loop #[59, 60] as_retracelaw04_FrameAll_0 bd_retracelaw04_FrameAll_0 101 [3, 4, 8, 10, 12] [.ptr 1 0, .ptr 2 0, .ptr 3 0, .ptr 4 0, .ptr 6 0] .busy none, .blk 3 [i64 o1_0], .blk 4 [bo o2_0], .blk 70 (T_retraceref04_List.pvs o3), .blk 31 [.row 5 (o5).length], .row 3 1 (encL (eInt .i64) o5), .blk 3 [i64 (w64 (o6_0 + 1))], .ghost (gv 0) (.ptr 0 0), .ghost (gv 1) (.ptr 1 0), .ghost (gv 2) (.ptr 2 0), .ghost (gv 3) (.ptr 3 0), .ghost (gv 4) (.ptr 4 0), .ghost (gv 5) (.row 5 0), .ghost (gv 6) (.ptr 6 0), .ghost (yieldV l) (.yld 0)]⟩) (by kernel_rfl) ?_
        obtain rfl := some_eq h
        refine At.exit (round_fin hR (i := 0) (k := 14) (ρ := [0, 1, 2, 3, 4, 5, 6]) (jump := (some (.exit 0))) (gs := [.ghost (gv 0) (.ptr 0 0), .ghost (gv 1) (.ptr 1 0), .ghost (gv 2) (.ptr 2 0), .ghost (gv 3) (.ptr 3 0), .ghost (gv 4) (.ptr 4 0), .ghost (gv 5) (.row 5 0), .ghost (gv 6) (.ptr 6 0)]) (by kernel_rfl) rfl (by kernel_rfl) rfl rfl rfl)
      · replace h := cond_f b17 h
        refine At.nar [] [0, 1, 2, 3, 4, 5, 6, 7, 8, 9, 10, 11, 12, 13, 14] (st' := ⟨[], [.loop #[59, 60] as_retracelaw04_FrameAll_0 bd_retracelaw04_FrameAll_0 101 [3, 4, 8, 10, 12] [.ptr 1 0, .ptr 2 0, .ptr 3 0, .ptr 4 0, .ptr 6 0] .busy none, .blk 3 [i64 o1_0], .blk 4 [bo o2_0], .blk 70 (T_retraceref04_List.pvs o3), .blk 31 [.row 5 (o5).length], .row 3 1 (encL (eInt .i64) o5), .blk 3 [i64 (w64 (o6_0 + 1))], .ghost (gv 0) (.ptr 0 0), .ghost (gv 1) (.ptr 1 0), .ghost (gv 2) (.ptr 2 0), .ghost (gv 3) (.ptr 3 0), .ghost (gv 4) (.ptr 4 0), .ghost (gv 5) (.row 5 0), .ghost (gv 6) (.ptr 6 0), .ghost (yieldV l) (.yld 0)]⟩) (by kernel_rfl) ?_
        obtain rfl := some_eq h
        refine At.skip (round_fin hR (i := 0) (k := 14) (ρ := [0, 1, 2, 3, 4, 5, 6]) (jump := none) (gs := [.ghost (gv 0) (.ptr 0 0), .ghost (gv 1) (.ptr 1 0), .ghost (gv 2) (.ptr 2 0), .ghost (gv 3) (.ptr 3 0), .ghost (gv 4) (.ptr 4 0), .ghost (gv 5) (.row 5 0), .ghost (gv 6) (.ptr 6 0)]) (by kernel_rfl) rfl (by kernel_rfl) rfl rfl rfl)
set_option maxRecDepth 100000 in
theorem C_frame_Each_1_v2 (o1_0 : Int) (o2_0 : Bool) (o3 : T_retraceref04_List) (o6_0 : Int) (o7_0 : ByteArray) (o5 : (List Int)) (r : (Int) ⊕ (Bool × Int) ⊕ (Int)) (h : F_frame_Each_1_v2 o1_0 o2_0 o3 o6_0 o7_0 o5 = some r) : FnOK Try.prog 78 [.yld 0, .ptr 7 0] [.loop #[59, 60] as_retracelaw04_FrameAll_0 bd_retracelaw04_FrameAll_0 101 [3, 4, 8, 10, 12] [.ptr 1 0, .ptr 2 0, .ptr 3 0, .ptr 4 0, .ptr 6 0] .ready none, .blk 3 [i64 o1_0], .blk 4 [bo o2_0], .blk 70 (T_retraceref04_List.pvs o3), .blk 31 [.row 5 (o5).length], .row 3 1 (encL (eInt .i64) o5), .blk 3 [i64 o6_0], .blk 9 [sv o7_0]] ((Sum.elim (fun r => .tup []) (Sum.elim (fun r => .tup []) (fun r => .tup []))) r) ((Sum.elim (fun r => [.loop #[59, 60] as_retracelaw04_FrameAll_0 bd_retracelaw04_FrameAll_0 101 [3, 4, 8, 10, 12] [.ptr 1 0, .ptr 2 0, .ptr 3 0, .ptr 4 0, .ptr 6 0] .ready none, .blk 3 [i64 o1_0], .blk 4 [bo o2_0], .blk 70 (T_retraceref04_List.pvs o3), .blk 31 [.row 5 (o5).length], .row 3 1 (encL (eInt .i64) o5), .blk 3 [i64 r], .blk 9 [sv o7_0]]) (Sum.elim (fun r => [.loop #[59, 60] as_retracelaw04_FrameAll_0 bd_retracelaw04_FrameAll_0 101 [3, 4, 8, 10, 12] [.ptr 1 0, .ptr 2 0, .ptr 3 0, .ptr 4 0, .ptr 6 0] .done (some .ret), .blk 3 [i64 o1_0], .blk 4 [bo r.1], .blk 70 (T_retraceref04_List.pvs o3), .blk 31 [.row 5 (o5).length], .row 3 1 (encL (eInt .i64) o5), .blk 3 [i64 r.2], .blk 9 [sv o7_0]]) (fun r => [.loop #[59, 60] as_retracelaw04_FrameAll_0 bd_retracelaw04_FrameAll_0 101 [3, 4, 8, 10, 12] [.ptr 1 0, .ptr 2 0, .ptr 3 0, .ptr 4 0, .ptr 6 0] .done (some (.exit 0)), .blk 3 [i64 o1_0], .blk 4 [bo o2_0], .blk 70 (T_retraceref04_List.pvs o3), .blk 31 [.row 5 (o5).length], .row 3 1 (encL (eInt .i64) o5), .blk 3 [i64 r], .blk 9 [sv o7_0]]))) r) [1, 3, 5, 7, 9, 10, 13, 15] := by
  rw [F_frame_Each_1_v2] at h
  refine FnOK.intro Try.func78 rfl (by kernel_rfl) (by kernel_rfl) fun E gv R hR => ?_
  refine At.seq ?_
  refine At.region_end [0, 1, 3] [0, 1, 2, 3, 4, 5, 6, 7, 8, 9, 10, 11, 12, 13, 14, 15] _ (st' := ⟨[(0, .yld 0), (1, .ptr 7 0), (3, i64 0)], [.loop #[59, 60] as_retracelaw04_FrameAll_0 bd_retracelaw04_FrameAll_0 101 [3, 4, 8, 10, 12] [.ptr 1 0, .ptr 2 0, .ptr 3 0, .ptr 4 0, .ptr 6 0] .ready none, .blk 3 [i64 o1_0], .blk 4 [bo o2_0], .blk 70 (T_retraceref04_List.pvs o3), .blk 31 [.row 5 (o5).length], .row 3 1 (encL (eInt .i64) o5), .blk 3 [i64 o6_0], .blk 9 [sv o7_0], .ghost (gv 0) (.ptr 0 0), .ghost (gv 1) (.ptr 1 0), .ghost (gv 2) (.ptr 2 0), .ghost (gv 3) (.ptr 3 0), .ghost (gv 4) (.ptr 4 0), .ghost (gv 5) (.row 5 0), .ghost (gv 6) (.ptr 6 0), .ghost (gv 7) (.ptr 7 0)]⟩) (tips := []) (by kernel_rfl) all0 (norm ?_)
  refine At.block ?_
  refine At.loop (fun s : (Int × Int) => F_frame_Each_1_v2_L4 o1_0 o2_0 o3 o7_0 o5 s.1 s.2) (fun s : (Int × Int) => ⟨[(0, .yld 0), (1, .ptr 7 0), (3, i64 s.1)], [.loop #[59, 60] as_retracelaw04_FrameAll_0 bd_retracelaw04_FrameAll_0 101 [3, 4, 8, 10, 12] [.ptr 1 0, .ptr 2 0, .ptr 3 0, .ptr 4 0, .ptr 6 0] .ready none, .blk 3 [i64 o1_0], .blk 4 [bo o2_0], .blk 70 (T_retraceref04_List.pvs o3), .blk 31 [.row 5 (o5).length], .row 3 1 (encL (eInt .i64) o5), .blk 3 [i64 s.2], .blk 9 [sv o7_0], .ghost (gv 0) (.ptr 0 0), .ghost (gv 1) (.ptr 1 0), .ghost (gv 2) (.ptr 2 0), .ghost (gv 3) (.ptr 3 0), .ghost (gv 4) (.ptr 4 0), .ghost (gv 5) (.row 5 0), .ghost (gv 6) (.ptr 6 0), .ghost (gv 7) (.ptr 7 0)]⟩) r (0, o6_0) h ?_
  rintro ⟨x1, x2⟩ oo3 h f4
  replace h : F_frame_Each_1_v2_L4 o1_0 o2_0 o3 o7_0 o5 x1 x2 = some oo3 := h
  rw [F_frame_Each_1_v2_L4] at h
  refine At.block ?_
  refine At.seq ?_
  obtain ⟨y6, hy6, h⟩ := bind_some h
  refine At.region_end [0, 1, 3, 4, 5, 6] [0, 1, 2, 3, 4, 5, 6, 7, 8, 9, 10, 11, 12, 13, 14, 15, 16] _ (st' := ⟨[(0, .yld 0), (1, .ptr 7 0), (3, i64 x1), (4, .ptr 16 0), (5, i64 y6.2.1), (6, i64 y6.2.2)], [.loop #[59, 60] as_retracelaw04_FrameAll_0 bd_retracelaw04_FrameAll_0 101 [3, 4, 8, 10, 12] [.ptr 1 0, .ptr 2 0, .ptr 3 0, .ptr 4 0, .ptr 6 0] .ready none, .blk 3 [i64 o1_0], .blk 4 [bo o2_0], .blk 70 (T_retraceref04_List.pvs o3), .blk 31 [.row 5 (o5).length], .row 3 1 (encL (eInt .i64) o5), .blk 3 [i64 x2], .blk 9 [sv o7_0], .ghost (gv 0) (.ptr 0 0), .ghost (gv 1) (.ptr 1 0), .ghost (gv 2) (.ptr 2 0), .ghost (gv 3) (.ptr 3 0), .ghost (gv 4) (.ptr 4 0), .ghost (gv 5) (.row 5 0), .ghost (gv 6) (.ptr 6 0), .ghost (gv 7) (.ptr 7 0), .blk 53 (T_api_Frame.pvs y6.1)]⟩) (tips := [(2, { pc := some { ρ := [], n0 := 0, res := .tup [.agg (T_api_Frame.pvs y6.1), i64 y6.2.1, i64 y6.2.2], σ' := [], e := [] } })]) (by kernel_rfl) (allc (C_frame_Next o7_0 x1 y6 hy6) all0) (norm ?_)
  refine At.seq ?_
  refine At.seqJ (S := (Bool × Int) ⊕ (Bool) ⊕ (Int)) (Sum.elim (fun s => ⟨[(0, .yld 0), (1, .ptr 7 0), (5, i64 y6.2.1), (22, bo s.1)], [.loop #[59, 60] as_retracelaw04_FrameAll_0 bd_retracelaw04_FrameAll_0 101 [3, 4, 8, 10, 12] [.ptr 1 0, .ptr 2 0, .ptr 3 0, .ptr 4 0, .ptr 6 0] .ready none, .blk 3 [i64 o1_0], .blk 4 [bo o2_0], .blk 70 (T_retraceref04_List.pvs o3), .blk 31 [.row 5 (o5).length], .row 3 1 (encL (eInt .i64) o5), .blk 3 [i64 s.2], .blk 9 [sv o7_0], .ghost (gv 0) (.ptr 0 0), .ghost (gv 1) (.ptr 1 0), .ghost (gv 2) (.ptr 2 0), .ghost (gv 3) (.ptr 3 0), .ghost (gv 4) (.ptr 4 0), .ghost (gv 5) (.row 5 0), .ghost (gv 6) (.ptr 6 0), .ghost (gv 7) (.ptr 7 0)]⟩) (Sum.elim (fun s => ⟨[(0, .yld 0), (1, .ptr 7 0), (5, i64 y6.2.1), (22, bo true)], [.loop #[59, 60] as_retracelaw04_FrameAll_0 bd_retracelaw04_FrameAll_0 101 [3, 4, 8, 10, 12] [.ptr 1 0, .ptr 2 0, .ptr 3 0, .ptr 4 0, .ptr 6 0] .done (some .ret), .blk 3 [i64 o1_0], .blk 4 [bo s], .blk 70 (T_retraceref04_List.pvs o3), .blk 31 [.row 5 (o5).length], .row 3 1 (encL (eInt .i64) o5), .blk 3 [i64 x2], .blk 9 [sv o7_0], .ghost (gv 0) (.ptr 0 0), .ghost (gv 1) (.ptr 1 0), .ghost (gv 2) (.ptr 2 0), .ghost (gv 3) (.ptr 3 0), .ghost (gv 4) (.ptr 4 0), .ghost (gv 5) (.row 5 0), .ghost (gv 6) (.ptr 6 0), .ghost (gv 7) (.ptr 7 0)]⟩) (fun s => ⟨[(0, .yld 0), (1, .ptr 7 0), (5, i64 y6.2.1), (22, bo true)], [.loop #[59, 60] as_retracelaw04_FrameAll_0 bd_retracelaw04_FrameAll_0 101 [3, 4, 8, 10, 12] [.ptr 1 0, .ptr 2 0, .ptr 3 0, .ptr 4 0, .ptr 6 0] .done (some (.exit 0)), .blk 3 [i64 o1_0], .blk 4 [bo o2_0], .blk 70 (T_retraceref04_List.pvs o3), .blk 31 [.row 5 (o5).length], .row 3 1 (encL (eInt .i64) o5), .blk 3 [i64 s], .blk 9 [sv o7_0], .ghost (gv 0) (.ptr 0 0), .ghost (gv 1) (.ptr 1 0), .ghost (gv 2) (.ptr 2 0), .ghost (gv 3) (.ptr 3 0), .ghost (gv 4) (.ptr 4 0), .ghost (gv 5) (.row 5 0), .ghost (gv 6) (.ptr 6 0), .ghost (gv 7) (.ptr 7 0)]⟩))) (Sum.elim (fun s => F_frame_Each_1_v2_J1 y6 s.1 s.2 = some oo3) (Sum.elim (fun s => F_frame_Each_1_v2_J2 x2 s = some oo3) (fun s => F_frame_Each_1_v2_J3 s = some oo3))) ?_ ?_
  · rcases tf (y6.2.2 != 0) with b38 | b38
    · replace h := cond_t b38 h
      refine At.region_end [0, 1, 5, 22] [0, 1, 2, 3, 4, 5, 6, 7, 8, 9, 10, 11, 12, 13, 14, 15] _ (st' := ⟨[(0, .yld 0), (1, .ptr 7 0), (5, i64 y6.2.1), (22, bo true)], [.loop #[59, 60] as_retracelaw04_FrameAll_0 bd_retracelaw04_FrameAll_0 101 [3, 4, 8, 10, 12] [.ptr 1 0, .ptr 2 0, .ptr 3 0, .ptr 4 0, .ptr 6 0] .ready none, .blk 3 [i64 o1_0], .blk 4 [bo o2_0], .blk 70 (T_retraceref04_List.pvs o3), .blk 31 [.row 5 (o5).length], .row 3 1 (encL (eInt .i64) o5), .blk 3 [i64 x2], .blk 9 [sv o7_0], .ghost (gv 0) (.ptr 0 0), .ghost (gv 1) (.ptr 1 0), .ghost (gv 2) (.ptr 2 0), .ghost (gv 3) (.ptr 3 0), .ghost (gv 4) (.ptr 4 0), .ghost (gv 5) (.row 5 0), .ghost (gv 6) (.ptr 6 0), .ghost (gv 7) (.ptr 7 0)]⟩) (tips := [(2, { orc := .val (.bool true) })]) (by kernel_rfl) (allc (congrArg D.bool b38) all0) (fun a w hs => ⟨.inl (true, x2), h, hs⟩)
    · replace h := cond_f b38 h
      obtain ⟨y39, hy39, h⟩ := bind_some h
      rcases y39 with y40 | (y41 | y42)
      · replace h := el_inl h
        refine At.region_end [0, 1, 5, 22] [0, 1, 2, 3, 4, 5, 6, 7, 8, 9, 10, 11, 12, 13, 14, 15] _ (st' := ⟨[(0, .yld 0), (1, .ptr 7 0), (5, i64 y6.2.1), (22, bo true)], [.loop #[59, 60] as_retracelaw04_FrameAll_0 bd_retracelaw04_FrameAll_0 101 [3, 4, 8, 10, 12] [.ptr 1 0, .ptr 2 0, .ptr 3 0, .ptr 4 0, .ptr 6 0] .done (some .ret), .blk 3 [i64 o1_0], .blk 4 [bo y40], .blk 70 (T_retraceref04_List.pvs o3), .blk 31 [.row 5 (o5).length], .row 3 1 (encL (eInt .i64) o5), .blk 3 [i64 x2], .blk 9 [sv o7_0], .ghost (gv 0) (.ptr 0 0), .ghost (gv 1) (.ptr 1 0), .ghost (gv 2) (.ptr 2 0), .ghost (gv 3) (.ptr 3 0), .ghost (gv 4) (.ptr 4 0), .ghost (gv 5) (.row 5 0), .ghost (gv 6) (.ptr 6 0), .ghost (gv 7) (.ptr 7 0)]⟩) (tips := [(2, { orc := .val (.bool false) }), (6, { pc := some { ρ := [0, 1, 2, 3, 4, 5, 6], n0 := 7, res := bo false, σ' := [.loop #[59, 60] as_retracelaw04_FrameAll_0 bd_retracelaw04_FrameAll_0 101 [3, 4, 8, 10, 12] [.ptr 1 0, .ptr 2 0, .ptr 3 0, .ptr 4 0, .ptr 6 0] .done (some .ret), .blk 3 [i64 o1_0], .blk 4 [bo y40], .blk 70 (T_retraceref04_List.pvs o3), .blk 31 [.row 5 (o5).length], .row 3 1 (encL (eInt .i64) o5), .blk 3 [i64 x2]], e := [1, 3, 5, 7, 9, 10, 13] } })]) (by kernel_rfl) (allc (congrArg D.bool b38) (allc (C_R_retracelaw04_FrameAll_0 x1 y6.1 o1_0 o2_0 o3 x2 o5 (.inl y40) hy39) all0)) (fun a w hs => ⟨.inr (.inl y40), h, hs⟩)
      · replace h := el_inr h
        replace h := el_inl h
        refine At.region_end [0, 1, 5, 22] [0, 1, 2, 3, 4, 5, 6, 7, 8, 9, 10, 11, 12, 13, 14, 15] _ (st' := ⟨[(0, .yld 0), (1, .ptr 7 0), (5, i64 y6.2.1), (22, bo true)], [.loop #[59, 60] as_retracelaw04_FrameAll_0 bd_retracelaw04_FrameAll_0 101 [3, 4, 8, 10, 12] [.ptr 1 0, .ptr 2 0, .ptr 3 0, .ptr 4 0, .ptr 6 0] .done (some (.exit 0)), .blk 3 [i64 o1_0], .blk 4 [bo o2_0], .blk 70 (T_retraceref04_List.pvs o3), .blk 31 [.row 5 (o5).length], .row 3 1 (encL (eInt .i64) o5), .blk 3 [i64 y41], .blk 9 [sv o7_0], .ghost (gv 0) (.ptr 0 0), .ghost (gv 1) (.ptr 1 0), .ghost (gv 2) (.ptr 2 0), .ghost (gv 3) (.ptr 3 0), .ghost (gv 4) (.ptr 4 0), .ghost (gv 5) (.row 5 0), .ghost (gv 6) (.ptr 6 0), .ghost (gv 7) (.ptr 7 0)]⟩) (tips := [(2, { orc := .val (.bool false) }), (6, { pc := some { ρ := [0, 1, 2, 3, 4, 5, 6], n0 := 7, res := bo false, σ' := [.loop #[59, 60] as_retracelaw04_FrameAll_0 bd_retracelaw04_FrameAll_0 101 [3, 4, 8, 10, 12] [.ptr 1 0, .ptr 2 0, .ptr 3 0, .ptr 4 0, .ptr 6 0] .done (some (.exit 0)), .blk 3 [i64 o1_0], .blk 4 [bo o2_0], .blk 70 (T_retraceref04_List.pvs o3), .blk 31 [.row 5 (o5).length], .row 3 1 (encL (eInt .i64) o5), .blk 3 [i64 y41]], e := [1, 3, 5, 7, 9, 10, 13] } })]) (by kernel_rfl) (allc (congrArg D.bool b38) (allc (C_R_retracelaw04_FrameAll_0 x1 y6.1 o1_0 o2_0 o3 x2 o5 (.inr (.inl y41)) hy39) all0)) (fun a w hs => ⟨.inr (.inr (y41)), h, hs⟩)
      · replace h := el_inr h
        replace h := el_inr h
        refine At.region_end [0, 1, 5, 22] [0, 1, 2, 3, 4, 5, 6, 7, 8, 9, 10, 11, 12, 13, 14, 15] _ (st' := ⟨[(0, .yld 0), (1, .ptr 7 0), (5, i64 y6.2.1), (22, bo false)], [.loop #[59, 60] as_retracelaw04_FrameAll_0 bd_retracelaw04_FrameAll_0 101 [3, 4, 8, 10, 12] [.ptr 1 0, .ptr 2 0, .ptr 3 0, .ptr 4 0, .ptr 6 0] .ready none, .blk 3 [i64 o1_0], .blk 4 [bo o2_0], .blk 70 (T_retraceref04_List.pvs o3), .blk 31 [.row 5 (o5).length], .row 3 1 (encL (eInt .i64) o5), .blk 3 [i64 y42], .blk 9 [sv o7_0], .ghost (gv 0) (.ptr 0 0), .ghost (gv 1) (.ptr 1 0), .ghost (gv 2) (.ptr 2 0), .ghost (gv 3) (.ptr 3 0), .ghost (gv 4) (.ptr 4 0), .ghost (gv 5) (.row 5 0), .ghost (gv 6) (.ptr 6 0), .ghost (gv 7) (.ptr 7 0)]⟩) (tips := [(2, { orc := .val (.bool false) }), (6, { pc := some { ρ := [0, 1, 2, 3, 4, 5, 6], n0 := 7, res := bo true, σ' := [.loop #[59, 60] as_retracelaw04_FrameAll_0 bd_retracelaw04_FrameAll_0 101 [3, 4, 8, 10, 12] [.ptr 1 0, .ptr 2 0, .ptr 3 0, .ptr 4 0, .ptr 6 0] .ready none, .blk 3 [i64 o1_0], .blk 4 [bo o2_0], .blk 70 (T_retraceref04_List.pvs o3), .blk 31 [.row 5 (o5).length], .row 3 1 (encL (eInt .i64) o5), .blk 3 [i64 y42]], e := [1, 3, 5, 7, 9, 10, 13] } })]) (by kernel_rfl) (allc (congrArg D.bool b38) (allc (C_R_retracelaw04_FrameAll_0 x1 y6.1 o1_0 o2_0 o3 x2 o5 (.inr (.inr y42)) hy39) all0)) (fun a w hs => ⟨.inl (false, y42), h, hs⟩)
  · rintro (⟨x27, x28⟩ | (x32 | x35)) h
    · replace h : F_frame_Each_1_v2_J1 y6 x27 x28 = some oo3 := h
      rw [F_frame_Each_1_v2_J1] at h
      refine At.cond x27 (by kernel_rfl) (fun b29 => ?_) (fun b29 => ?_)
      · replace h := cond_t b29 h
        obtain ⟨r30, h, e31⟩ := map_inr h
        rw [f4 _ e31] at h
        refine At.edNar [] [] [0, 1, 2, 3, 4, 5, 6, 7, 8, 9, 10, 11, 12, 13, 14, 15] (st' := ⟨[], [.loop #[59, 60] as_retracelaw04_FrameAll_0 bd_retracelaw04_FrameAll_0 101 [3, 4, 8, 10, 12] [.ptr 1 0, .ptr 2 0, .ptr 3 0, .ptr 4 0, .ptr 6 0] .ready none, .blk 3 [i64 o1_0], .blk 4 [bo o2_0], .blk 70 (T_retraceref04_List.pvs o3), .blk 31 [.row 5 (o5).length], .row 3 1 (encL (eInt .i64) o5), .blk 3 [i64 x28], .blk 9 [sv o7_0], .ghost (gv 0) (.ptr 0 0), .ghost (gv 1) (.ptr 1 0), .ghost (gv 2) (.ptr 2 0), .ghost (gv 3) (.ptr 3 0), .ghost (gv 4) (.ptr 4 0), .ghost (gv 5) (.row 5 0), .ghost (gv 6) (.ptr 6 0), .ghost (gv 7) (.ptr 7 0)]⟩) (by kernel_rfl) ?_
        obtain rfl := some_eq h
        exact At.ret fun a w hs => ret_ok hR (ρ := [0, 1, 2, 3, 4, 5, 6, 7]) (gs := [.ghost (gv 0) (.ptr 0 0), .ghost (gv 1) (.ptr 1 0), .ghost (gv 2) (.ptr 2 0), .ghost (gv 3) (.ptr 3 0), .ghost (gv 4) (.ptr 4 0), .ghost (gv 5) (.row 5 0), .ghost (gv 6) (.ptr 6 0), .ghost (gv 7) (.ptr 7 0)]) (by kernel_rfl) all0 (by kernel_rfl) rfl rfl a w hs _ (.inl rfl)
      · replace h := cond_f b29 h
        refine At.nar [0, 1, 5] [0, 1, 2, 3, 4, 5, 6, 7, 8, 9, 10, 11, 12, 13, 14, 15] (st' := ⟨[(0, .yld 0), (1, .ptr 7 0), (5, i64 y6.2.1)], [.loop #[59, 60] as_retracelaw04_FrameAll_0 bd_retracelaw04_FrameAll_0 101 [3, 4, 8, 10, 12] [.ptr 1 0, .ptr 2 0, .ptr 3 0, .ptr 4 0, .ptr 6 0] .ready none, .blk 3 [i64 o1_0], .blk 4 [bo o2_0], .blk 70 (T_retraceref04_List.pvs o3), .blk 31 [.row 5 (o5).length], .row 3 1 (encL (eInt .i64) o5), .blk 3 [i64 x28], .blk 9 [sv o7_0], .ghost (gv 0) (.ptr 0 0), .ghost (gv 1) (.ptr 1 0), .ghost (gv 2) (.ptr 2 0), .ghost (gv 3) (.ptr 3 0), .ghost (gv 4) (.ptr 4 0), .ghost (gv 5) (.row 5 0), .ghost (gv 6) (.ptr 6 0), .ghost (gv 7) (.ptr 7 0)]⟩) (by kernel_rfl) ?_
        refine At.skip (norm ?_)
        refine At.region_end [0, 1, 3] [0, 1, 2, 3, 4, 5, 6, 7, 8, 9, 10, 11, 12, 13, 14, 15] _ (st' := ⟨[(0, .yld 0), (1, .ptr 7 0), (3, i64 y6.2.1)], [.loop #[59, 60] as_retracelaw04_FrameAll_0 bd_retracelaw04_FrameAll_0 101 [3, 4, 8, 10, 12] [.ptr 1 0, .ptr 2 0, .ptr 3 0, .ptr 4 0, .ptr 6 0] .ready none, .blk 3 [i64 o1_0], .blk 4 [bo o2_0], .blk 70 (T_retraceref04_List.pvs o3), .blk 31 [.row 5 (o5).length], .row 3 1 (encL (eInt .i64) o5), .blk 3 [i64 x28], .blk 9 [sv o7_0], .ghost (gv 0) (.ptr 0 0), .ghost (gv 1) (.ptr 1 0), .ghost (gv 2) (.ptr 2 0), .ghost (gv 3) (.ptr 3 0), .ghost (gv 4) (.ptr 4 0), .ghost (gv 5) (.row 5 0), .ghost (gv 6) (.ptr 6 0), .ghost (gv 7) (.ptr 7 0)]⟩) (tips := []) (by kernel_rfl) all0 (fun a w hs => ⟨_, (some_eq h).symm, hs⟩)
    · replace h : F_frame_Each_1_v2_J2 x2 x32 = some oo3 := h
      rw [F_frame_Each_1_v2_J2] at h
      refine At.cond true (by kernel_rfl) (fun _ => ?_) (fun hb => by cases hb)
      obtain ⟨r33, h, e34⟩ := map_inr h
      rw [f4 _ e34] at h
      refine At.edNar [] [] [0, 1, 2, 3, 4, 5, 6, 7, 8, 9, 10, 11, 12, 13, 14, 15] (st' := ⟨[], [.loop #[59, 60] as_retracelaw04_FrameAll_0 bd_retracelaw04_FrameAll_0 101 [3, 4, 8, 10, 12] [.ptr 1 0, .ptr 2 0, .ptr 3 0, .ptr 4 0, .ptr 6 0] .done (some .ret), .blk 3 [i64 o1_0], .blk 4 [bo x32], .blk 70 (T_retraceref04_List.pvs o3), .blk 31 [.row 5 (o5).length], .row 3 1 (encL (eInt .i64) o5), .blk 3 [i64 x2], .blk 9 [sv o7_0], .ghost (gv 0) (.ptr 0 0), .ghost (gv 1) (.ptr 1 0), .ghost (gv 2) (.ptr 2 0), .ghost (gv 3) (.ptr 3 0), .ghost (gv 4) (.ptr 4 0), .ghost (gv 5) (.row 5 0), .ghost (gv 6) (.ptr 6 0), .ghost (gv 7) (.ptr 7 0)]⟩) (by kernel_rfl) ?_
      obtain rfl := some_eq h
      exact At.ret fun a w hs => ret_ok hR (ρ := [0, 1, 2, 3, 4, 5, 6, 7]) (gs := [.ghost (gv 0) (.ptr 0 0), .ghost (gv 1) (.ptr 1 0), .ghost (gv 2) (.ptr 2 0), .ghost (gv 3) (.ptr 3 0), .ghost (gv 4) (.ptr 4 0), .ghost (gv 5) (.row 5 0), .ghost (gv 6) (.ptr 6 0), .ghost (gv 7) (.ptr 7 0)]) (by kernel_rfl) all0 (by kernel_rfl) rfl rfl a w hs _ (.inl rfl)
    · replace h : F_frame_Each_1_v2_J3 x35 = some oo3 := h
      rw [F_frame_Each_1_v2_J3] at h
      refine At.cond true (by kernel_rfl) (fun _ => ?_) (fun hb => by cases hb)
      obtain ⟨r36, h, e37⟩ := map_inr h
      rw [f4 _ e37] at h
      refine At.edNar [] [] [0, 1, 2, 3, 4, 5, 6, 7, 8, 9, 10, 11, 12, 13, 14, 15] (st' := ⟨[], [.loop #[59, 60] as_retracelaw04_FrameAll_0 bd_retracelaw04_FrameAll_0 101 [3, 4, 8, 10, 12] [.ptr 1 0, .ptr 2 0, .ptr 3 0, .ptr 4 0, .ptr 6 0] .done (some (.exit 0)), .blk 3 [i64 o1_0], .blk 4 [bo o2_0], .blk 70 (T_retraceref04_List.pvs o3), .blk 31 [.row 5 (o5).length], .row 3 1 (encL (eInt .i64) o5), .blk 3 [i64 x35], .blk 9 [sv o7_0], .ghost (gv 0) (.ptr 0 0), .ghost (gv 1) (.ptr 1 0), .ghost (gv 2) (.ptr 2 0), .ghost (gv 3) (.ptr 3 0), .ghost (gv 4) (.ptr 4 0), .ghost (gv 5) (.row 5 0), .ghost (gv 6) (.ptr 6 0), .ghost (gv 7) (.ptr 7 0)]⟩) (by kernel_rfl) ?_
      obtain rfl := some_eq h
      exact At.ret fun a w hs => ret_ok hR (ρ := [0, 1, 2, 3, 4, 5, 6, 7]) (gs := [.ghost (gv 0) (.ptr 0 0), .ghost (gv 1) (.ptr 1 0), .ghost (gv 2) (.ptr 2 0), .ghost (gv 3) (.ptr 3 0), .ghost (gv 4) (.ptr 4 0), .ghost (gv 5) (.row 5 0), .ghost (gv 6) (.ptr 6 0), .ghost (gv 7) (.ptr 7 0)]) (by kernel_rfl) all0 (by kernel_rfl) rfl rfl a w hs _ (.inl rfl)
set_option maxRecDepth 100000 in
theorem C_retracelaw04_FrameAll (p0 : ByteArray) (p1 : Int) (r : Bool) (h : F_retracelaw04_FrameAll p0 p1 = some r) : FnOK Try.prog 10 [sv p0, i64 p1] [] (bo r) [] [] := by
  rw [F_retracelaw04_FrameAll] at h
  refine FnOK.intro Try.func10 rfl (by kernel_rfl) (by kernel_rfl) fun E gv R hR => ?_
  refine At.seq ?_
  refine At.region_end [0, 3, 4] [0, 1] _ (st' := ⟨[(0, sv p0), (3, .ptr 0 0), (4, .ptr 1 0)], [.blk 3 [i64 p1], .blk 4 [bo false]]⟩) (tips := []) (by kernel_rfl) all0 (norm ?_)
  refine At.seq ?_
  refine At.seqJ (S := Bool) (fun s => ⟨[(0, sv p0), (3, .ptr 0 0), (4, .ptr 1 0), (21, bo s)], [.blk 3 [i64 p1], .blk 4 [bo false]]⟩) (fun s => F_retracelaw04_FrameAll_J1 p0 p1 s = some r) ?_ ?_
  · rcases tf (decide (3000 < (p0.size : Int))) with b57 | b57
    · replace h := cond_t b57 h
      refine At.region_end [0, 3, 4, 21] [0, 1] _ (st' := ⟨[(0, sv p0), (3, .ptr 0 0), (4, .ptr 1 0), (21, bo true)], [.blk 3 [i64 p1], .blk 4 [bo false]]⟩) (tips := [(3, { orc := .val (.bool true) })]) (by kernel_rfl) (allc (congrArg D.bool b57) all0) (fun a w hs => ⟨true, h, hs⟩)
    · replace h := cond_f b57 h
      obtain ⟨y58, hy58, h⟩ := bind_some h
      refine At.region_end [0, 3, 4, 21] [0, 1] _ (st' := ⟨[(0, sv p0), (3, .ptr 0 0), (4, .ptr 1 0), (21, bo (!y58))], [.blk 3 [i64 p1], .blk 4 [bo false]]⟩) (tips := [(3, { orc := .val (.bool false) }), (4, { pc := some { ρ := [], n0 := 0, res := bo y58, σ' := [], e := [] } })]) (by kernel_rfl) (allc (congrArg D.bool b57) (allc (C_retracelaw04_live y58 hy58) all0)) (fun a w hs => ⟨(!y58), h, hs⟩)
  · intro x11 h
    replace h : F_retracelaw04_FrameAll_J1 p0 p1 x11 = some r := h
    rw [F_retracelaw04_FrameAll_J1] at h
    refine At.cond x11 (by kernel_rfl) (fun b12 => ?_) (fun b12 => ?_)
    · replace h := cond_t b12 h
      refine At.seq ?_
      obtain ⟨y14, hy14, h⟩ := bind_some h
      refine At.region_end [4] [1] _ (st' := ⟨[(4, .ptr 0 0)], [.blk 4 [bo y14]]⟩) (tips := [(0, { pc := some { ρ := [], n0 := 0, res := bo y14, σ' := [], e := [] } })]) (by kernel_rfl) (allc (C_retracelaw04_live y14 hy14) all0) (norm ?_)
      obtain rfl := some_eq h
      exact At.ret fun a w hs => ret_ok hR (ρ := []) (gs := []) (by kernel_rfl) all0 (by kernel_rfl) rfl rfl a w hs _ (.inl rfl)
    · replace h := cond_f b12 h
      refine At.nar [0, 3, 4] [0, 1] (st' := ⟨[(0, sv p0), (3, .ptr 0 0), (4, .ptr 1 0)], [.blk 3 [i64 p1], .blk 4 [bo false]]⟩) (by kernel_rfl) ?_
      refine At.skip (norm ?_)
      refine At.seq ?_
      obtain ⟨y16, hy16, h⟩ := bind_some h
      refine At.region_end [0, 3, 4, 5, 6, 7] [0, 1, 2] _ (st' := ⟨[(0, sv p0), (3, .ptr 0 0), (4, .ptr 1 0), (5, .row 2 (y16.1).length), (6, i64 y16.2.1), (7, i64 y16.2.2)], [.blk 3 [i64 p1], .blk 4 [bo false], .row 53 2 (encL T_api_Frame.enc y16.1)]⟩) (tips := [(1, { pc := some { ρ := [2], n0 := 0, res := .tup [.row 0 (y16.1).length, i64 y16.2.1, i64 y16.2.2], σ' := [.row 53 2 (encL T_api_Frame.enc y16.1)], e := [] } })]) (by kernel_rfl) (allc (C_frame_All p0 y16 hy16) all0) (norm ?_)
      refine At.seq ?_
      obtain ⟨y18, hy18, h⟩ := bind_some h
      refine At.region_end [0, 3, 4, 5, 6, 7, 8] [0, 1, 2, 3] _ (st' := ⟨[(0, sv p0), (3, .ptr 0 0), (4, .ptr 1 0), (5, .row 2 (y16.1).length), (6, i64 y16.2.1), (7, i64 y16.2.2), (8, .ptr 3 0)], [.blk 3 [i64 p1], .blk 4 [bo false], .row 53 2 (encL T_api_Frame.enc y16.1), .blk 70 (T_retraceref04_List.pvs y18)]⟩) (tips := [(1, { pc := some { ρ := [], n0 := 0, res := .agg (T_retraceref04_List.pvs y18), σ' := [], e := [] } })]) (by kernel_rfl) (allc (C_retraceref04_All p0 y18 hy18) all0) (norm ?_)
      refine At.seq ?_
      refine At.seqJ (S := Bool) (fun s => ⟨[(0, sv p0), (3, .ptr 0 0), (4, .ptr 1 0), (8, .ptr 2 0), (47, bo s)], [.blk 3 [i64 p1], .blk 4 [bo false], .blk 70 (T_retraceref04_List.pvs y18)]⟩) (fun s => F_retracelaw04_FrameAll_J2 p0 p1 y18 s = some r) ?_ ?_
      · obtain ⟨y54, hy54, h⟩ := bind_some h
        rcases tf (!y54) with b55 | b55
        · replace h := cond_t b55 h
          refine At.region_end [0, 3, 4, 8, 47] [0, 1, 3] _ (st' := ⟨[(0, sv p0), (3, .ptr 0 0), (4, .ptr 1 0), (8, .ptr 2 0), (47, bo true)], [.blk 3 [i64 p1], .blk 4 [bo false], .blk 70 (T_retraceref04_List.pvs y18)]⟩) (tips := [(3, { settle := [2], pc := some { ρ := [], n0 := 0, res := bo y54, σ' := [], e := [] } }), (5, { orc := .val (.bool true) })]) (by kernel_rfl) (allc (C_retraceref04_Same y16.1 y18.L y54 hy54) (allc (congrArg D.bool b55) all0)) (fun a w hs => ⟨true, h, hs⟩)
        · replace h := cond_f b55 h
          rcases tf (y16.2.1 != y18.At) with b56 | b56
          · replace h := cond_t b56 h
            refine At.region_end [0, 3, 4, 8, 47] [0, 1, 3] _ (st' := ⟨[(0, sv p0), (3, .ptr 0 0), (4, .ptr 1 0), (8, .ptr 2 0), (47, bo true)], [.blk 3 [i64 p1], .blk 4 [bo false], .blk 70 (T_retraceref04_List.pvs y18)]⟩) (tips := [(3, { settle := [2], pc := some { ρ := [], n0 := 0, res := bo y54, σ' := [], e := [] } }), (5, { orc := .val (.bool false) }), (11, { orc := .val (.bool true) })]) (by kernel_rfl) (allc (C_retraceref04_Same y16.1 y18.L y54 hy54) (allc (congrArg D.bool b55) (allc (congrArg D.bool b56) all0))) (fun a w hs => ⟨true, h, hs⟩)
          · replace h := cond_f b56 h
            refine At.region_end [0, 3, 4, 8, 47] [0, 1, 3] _ (st' := ⟨[(0, sv p0), (3, .ptr 0 0), (4, .ptr 1 0), (8, .ptr 2 0), (47, bo (y16.2.2 != y18.E))], [.blk 3 [i64 p1], .blk 4 [bo false], .blk 70 (T_retraceref04_List.pvs y18)]⟩) (tips := [(3, { settle := [2], pc := some { ρ := [], n0 := 0, res := bo y54, σ' := [], e := [] } }), (5, { orc := .val (.bool false) }), (11, { orc := .val (.bool false) })]) (by kernel_rfl) (allc (C_retraceref04_Same y16.1 y18.L y54 hy54) (allc (congrArg D.bool b55) (allc (congrArg D.bool b56) all0))) (fun a w hs => ⟨(y16.2.2 != y18.E), h, hs⟩)
      · intro x30 h
        replace h : F_retracelaw04_FrameAll_J2 p0 p1 y18 x30 = some r := h
        rw [F_retracelaw04_FrameAll_J2] at h
        refine At.cond x30 (by kernel_rfl) (fun b31 => ?_) (fun b31 => ?_)
        · replace h := cond_t b31 h
          refine At.seq ?_
          refine At.region_end [4] [1] _ (st' := ⟨[(4, .ptr 0 0)], [.blk 4 [bo false]]⟩) (tips := []) (by kernel_rfl) all0 (norm ?_)
          obtain rfl := some_eq h
          exact At.ret fun a w hs => ret_ok hR (ρ := []) (gs := []) (by kernel_rfl) all0 (by kernel_rfl) rfl rfl a w hs _ (.inl rfl)
        · replace h := cond_f b31 h
          refine At.nar [0, 3, 4, 8] [0, 1, 2] (st' := ⟨[(0, sv p0), (3, .ptr 0 0), (4, .ptr 1 0), (8, .ptr 2 0)], [.blk 3 [i64 p1], .blk 4 [bo false], .blk 70 (T_retraceref04_List.pvs y18)]⟩) (by kernel_rfl) ?_
          refine At.skip (norm ?_)
          refine At.seq ?_
          obtain ⟨y33, hy33, h⟩ := bind_some h
          refine At.region_end [0, 3, 4, 8, 10] [0, 1, 2, 4, 3] _ (st' := ⟨[(0, sv p0), (3, .ptr 0 0), (4, .ptr 1 0), (8, .ptr 2 0), (10, .ptr 3 0)], [.blk 3 [i64 p1], .blk 4 [bo false], .blk 70 (T_retraceref04_List.pvs y18), .blk 31 [.row 4 (y33.2).length], .row 3 1 (encL (eInt .i64) y33.2)]⟩) (tips := [(2, { pc := some { ρ := [3], n0 := 0, res := .tup [sv y33.1, .row 0 (y33.2).length], σ' := [.row 3 1 (encL (eInt .i64) y33.2)], e := [] } })]) (by kernel_rfl) (allc (C_retraceref04_Joined y18.L y33 hy33) all0) (norm ?_)
          refine At.seq ?_
          obtain ⟨y35, hy35, h⟩ := bind_some h
          refine At.region_end [3, 4, 8, 10, 11] [0, 1, 2, 3, 4, 5] _ (st' := ⟨[(3, .ptr 0 0), (4, .ptr 1 0), (8, .ptr 2 0), (10, .ptr 3 0), (11, .fn (.func 78) [] [.ptr 5 0])], [.blk 3 [i64 p1], .blk 4 [bo false], .blk 70 (T_retraceref04_List.pvs y18), .blk 31 [.row 4 (y33.2).length], .row 3 1 (encL (eInt .i64) y33.2), .blk 9 [sv y35]]⟩) (tips := [(1, { pc := some { ρ := [5], n0 := 0, res := .fn (.func 78) [] [.ptr 0 0], σ' := [.blk 9 [sv y35]], e := [] } })]) (by kernel_rfl) (allc (C_frame_Each p0 y35 hy35) all0) (norm ?_)
          refine At.seq ?_
          refine At.seq ?_
          refine At.region_end [3, 4, 8, 10, 11, 57] [0, 1, 2, 3, 4, 5] _ (st' := ⟨[(3, .ptr 0 0), (4, .ptr 1 0), (8, .ptr 2 0), (10, .ptr 3 0), (11, .fn (.func 78) [] [.ptr 5 0]), (57, bo false)], [.blk 3 [i64 p1], .blk 4 [bo false], .blk 70 (T_retraceref04_List.pvs y18), .blk 31 [.row 4 (y33.2).length], .row 3 1 (encL (eInt .i64) y33.2), .blk 9 [sv y35]]⟩) (tips := []) (by kernel_rfl) all0 (norm ?_)
          refine At.cond false (by kernel_rfl) (fun hb => by cases hb) (fun _ => ?_)
          refine At.nar [3, 4, 8, 10, 11] [0, 1, 2, 3, 4, 5] (st' := ⟨[(3, .ptr 0 0), (4, .ptr 1 0), (8, .ptr 2 0), (10, .ptr 3 0), (11, .fn (.func 78) [] [.ptr 5 0])], [.blk 3 [i64 p1], .blk 4 [bo false], .blk 70 (T_retraceref04_List.pvs y18), .blk 31 [.row 4 (y33.2).length], .row 3 1 (encL (eInt .i64) y33.2), .blk 9 [sv y35]]⟩) (by kernel_rfl) ?_
          refine At.skip (norm ?_)
          refine At.seq ?_
          refine At.region_end [3, 4, 8, 10, 11, 12] [0, 1, 2, 3, 4, 5, 6] _ (st' := ⟨[(3, .ptr 0 0), (4, .ptr 1 0), (8, .ptr 2 0), (10, .ptr 3 0), (11, .fn (.func 78) [] [.ptr 5 0]), (12, .ptr 6 0)], [.blk 3 [i64 p1], .blk 4 [bo false], .blk 70 (T_retraceref04_List.pvs y18), .blk 31 [.row 4 (y33.2).length], .row 3 1 (encL (eInt .i64) y33.2), .blk 9 [sv y35], .blk 3 [i64 0]]⟩) (tips := []) (by kernel_rfl) all0 (norm ?_)
          refine At.seqJ (S := Int) (fun s => ⟨[(3, .ptr 1 0), (4, .ptr 2 0), (8, .ptr 3 0), (12, .ptr 4 0)], [.mark, .blk 3 [i64 p1], .blk 4 [bo false], .blk 70 (T_retraceref04_List.pvs y18), .blk 3 [i64 s]]⟩) (fun s => F_retracelaw04_FrameAll_J3 p1 y18 s = some r) ?_ ?_
          · refine At.seq ?_
            refine At.region_end [3, 4, 8, 10, 12, 58] [0, 1, 2, 3, 4, 6, 5] _ (st' := ⟨[(3, .ptr 0 0), (4, .ptr 1 0), (8, .ptr 2 0), (10, .ptr 3 0), (12, .ptr 5 0), (58, .fn (.func 78) [] [.ptr 6 0])], [.blk 3 [i64 p1], .blk 4 [bo false], .blk 70 (T_retraceref04_List.pvs y18), .blk 31 [.row 4 (y33.2).length], .row 3 1 (encL (eInt .i64) y33.2), .blk 3 [i64 0], .blk 9 [sv y35]]⟩) (tips := []) (by kernel_rfl) all0 (norm ?_)
            refine At.block ?_
            obtain ⟨y50, hy50, h⟩ := bind_some h
            rcases y50 with y51 | (y52 | y53)
            · replace h := el_inl h
              refine At.range (pc := { ρ := [8, 0, 1, 2, 3, 4, 5, 6], n0 := 8, res := .tup [], σ' := [.loop #[59, 60] as_retracelaw04_FrameAll_0 bd_retracelaw04_FrameAll_0 101 [3, 4, 8, 10, 12] [.ptr 1 0, .ptr 2 0, .ptr 3 0, .ptr 4 0, .ptr 6 0] .ready none, .blk 3 [i64 p1], .blk 4 [bo false], .blk 70 (T_retraceref04_List.pvs y18), .blk 31 [.row 5 (y33.2).length], .row 3 1 (encL (eInt .i64) y33.2), .blk 3 [i64 y51], .blk 9 [sv y35]], e := [1, 3, 5, 7, 9, 10, 13, 15] }) [3, 4, 8, 10, 12] (st' := ⟨[(3, .ptr 0 0), (4, .ptr 1 0), (8, .ptr 2 0), (10, .ptr 3 0), (12, .ptr 5 0), (58, .fn (.func 78) [] [.ptr 6 0])], [.blk 3 [i64 p1], .blk 4 [bo false], .blk 70 (T_retraceref04_List.pvs y18), .blk 31 [.row 4 (y33.2).length], .row 3 1 (encL (eInt .i64) y33.2), .blk 3 [i64 y51], .blk 9 [sv y35], .mark, .dead]⟩) (jump := none) (by kernel_rfl) (allc (C_frame_Each_1_v2 p1 false y18 0 y35 y33.2 (.inl y51) hy50) all0) (nark [3, 4, 8, 12] [7, 0, 1, 2, 5] (st' := ⟨[(3, .ptr 1 0), (4, .ptr 2 0), (8, .ptr 3 0), (12, .ptr 4 0)], [.mark, .blk 3 [i64 p1], .blk 4 [bo false], .blk 70 (T_retraceref04_List.pvs y18), .blk 3 [i64 y51]]⟩) (by kernel_rfl) (fun a w hs => ⟨y51, h, hs⟩))
            · replace h := el_inr h
              replace h := el_inl h
              refine At.range (pc := { ρ := [8, 0, 1, 2, 3, 4, 5, 6], n0 := 8, res := .tup [], σ' := [.loop #[59, 60] as_retracelaw04_FrameAll_0 bd_retracelaw04_FrameAll_0 101 [3, 4, 8, 10, 12] [.ptr 1 0, .ptr 2 0, .ptr 3 0, .ptr 4 0, .ptr 6 0] .done (some .ret), .blk 3 [i64 p1], .blk 4 [bo y52.1], .blk 70 (T_retraceref04_List.pvs y18), .blk 31 [.row 5 (y33.2).length], .row 3 1 (encL (eInt .i64) y33.2), .blk 3 [i64 y52.2], .blk 9 [sv y35]], e := [1, 3, 5, 7, 9, 10, 13, 15] }) [3, 4, 8, 10, 12] (st' := ⟨[(3, .ptr 0 0), (4, .ptr 1 0), (8, .ptr 2 0), (10, .ptr 3 0), (12, .ptr 5 0), (58, .fn (.func 78) [] [.ptr 6 0])], [.blk 3 [i64 p1], .blk 4 [bo y52.1], .blk 70 (T_retraceref04_List.pvs y18), .blk 31 [.row 4 (y33.2).length], .row 3 1 (encL (eInt .i64) y33.2), .blk 3 [i64 y52.2], .blk 9 [sv y35], .mark, .dead]⟩) (jump := (some .ret)) (by kernel_rfl) (allc (C_frame_Each_1_v2 p1 false y18 0 y35 y33.2 (.inr (.inl y52)) hy50) all0) ?_
              show At _ _ _ _ .ret _ _
              refine At.edNar [] [4] [7, 1] (st' := ⟨[(4, .ptr 1 0)], [.mark, .blk 4 [bo y52.1]]⟩) (by kernel_rfl) ?_
              obtain rfl := some_eq h
              exact At.ret fun a w hs => ret_ok hR (ρ := []) (gs := []) (by kernel_rfl) all0 (by kernel_rfl) rfl rfl a w hs _ (.inl rfl)
            · replace h := el_inr h
              replace h := el_inr h
              refine At.range (pc := { ρ := [8, 0, 1, 2, 3, 4, 5, 6], n0 := 8, res := .tup [], σ' := [.loop #[59, 60] as_retracelaw04_FrameAll_0 bd_retracelaw04_FrameAll_0 101 [3, 4, 8, 10, 12] [.ptr 1 0, .ptr 2 0, .ptr 3 0, .ptr 4 0, .ptr 6 0] .done (some (.exit 0)), .blk 3 [i64 p1], .blk 4 [bo false], .blk 70 (T_retraceref04_List.pvs y18), .blk 31 [.row 5 (y33.2).length], .row 3 1 (encL (eInt .i64) y33.2), .blk 3 [i64 y53], .blk 9 [sv y35]], e := [1, 3, 5, 7, 9, 10, 13, 15] }) [3, 4, 8, 10, 12] (st' := ⟨[(3, .ptr 0 0), (4, .ptr 1 0), (8, .ptr 2 0), (10, .ptr 3 0), (12, .ptr 5 0), (58, .fn (.func 78) [] [.ptr 6 0])], [.blk 3 [i64 p1], .blk 4 [bo false], .blk 70 (T_retraceref04_List.pvs y18), .blk 31 [.row 4 (y33.2).length], .row 3 1 (encL (eInt .i64) y33.2), .blk 3 [i64 y53], .blk 9 [sv y35], .mark, .dead]⟩) (jump := (some (.exit 0))) (by kernel_rfl) (allc (C_frame_Each_1_v2 p1 false y18 0 y35 y33.2 (.inr (.inr y53)) hy50) all0) ?_
              show At _ _ _ _ (.exit 0) _ _
              refine At.nar [3, 4, 8, 12] [7, 0, 1, 2, 5] (st' := ⟨[(3, .ptr 1 0), (4, .ptr 2 0), (8, .ptr 3 0), (12, .ptr 4 0)], [.mark, .blk 3 [i64 p1], .blk 4 [bo false], .blk 70 (T_retraceref04_List.pvs y18), .blk 3 [i64 y53]]⟩) (by kernel_rfl) ?_
              refine At.exit (fun a w hs => ⟨y53, h, hs⟩)
          · intro x40 h
            replace h : F_retracelaw04_FrameAll_J3 p1 y18 x40 = some r := h
            rw [F_retracelaw04_FrameAll_J3] at h
            refine At.seqJ (S := Bool) (fun s => ⟨[(4, .ptr 1 0)], [.mark, .blk 4 [bo s]]⟩) (fun s => F_retracelaw04_FrameAll_J4 s = some r) ?_ ?_
            · rcases tf (x40 == ((y18.L).length : Int)) with b46 | b46
              · replace h := cond_t b46 h
                obtain ⟨y47, hy47, h⟩ := bind_some h
                refine At.region_end [4] [0, 2] _ (st' := ⟨[(4, .ptr 1 0)], [.mark, .blk 4 [bo y47]]⟩) (tips := [(5, { orc := .val (.bool true) }), (11, { pc := some { ρ := [], n0 := 0, res := bo y47, σ' := [], e := [] } })]) (by kernel_rfl) (allc (congrArg D.bool b46) (allc (C_retracelaw04_live y47 hy47) all0)) (fun a w hs => ⟨y47, h, hs⟩)
              · replace h := cond_f b46 h
                rcases tf (x40 == p1) with b48 | b48
                · replace h := cond_t b48 h
                  obtain ⟨y49, hy49, h⟩ := bind_some h
                  refine At.region_end [4] [0, 2] _ (st' := ⟨[(4, .ptr 1 0)], [.mark, .blk 4 [bo y49]]⟩) (tips := [(5, { orc := .val (.bool false) }), (10, { orc := .val (.bool true) }), (11, { pc := some { ρ := [], n0 := 0, res := bo y49, σ' := [], e := [] } })]) (by kernel_rfl) (allc (congrArg D.bool b46) (allc (congrArg D.bool b48) (allc (C_retracelaw04_live y49 hy49) all0))) (fun a w hs => ⟨y49, h, hs⟩)
                · replace h := cond_f b48 h
                  refine At.region_end [4] [0, 2] _ (st' := ⟨[(4, .ptr 1 0)], [.mark, .blk 4 [bo false]]⟩) (tips := [(5, { orc := .val (.bool false) }), (10, { orc := .val (.bool false) })]) (by kernel_rfl) (allc (congrArg D.bool b46) (allc (congrArg D.bool b48) all0)) (fun a w hs => ⟨false, h, hs⟩)
            · intro x45 h
              replace h : F_retracelaw04_FrameAll_J4 x45 = some r := h
              rw [F_retracelaw04_FrameAll_J4] at h
              obtain rfl := some_eq h
              exact At.ret fun a w hs => ret_ok hR (ρ := []) (gs := []) (by kernel_rfl) all0 (by kernel_rfl) rfl rfl a w hs _ (.inl rfl)
set_option maxRecDepth 100000 in
theorem C_retracelaw04_large (p0 : (List T_api_Frame)) (r : Bool) (h : F_retracelaw04_large p0 = some r) : FnOK Try.prog 41 [lv T_api_Frame.enc p0] [] (bo r) [] [] := by
  rw [F_retracelaw04_large] at h
  refine FnOK.intro Try.func41 rfl (by kernel_rfl) (by kernel_rfl) fun E gv R hR => ?_
  refine At.seq ?_
  refine At.region_end [0] [] _ (st' := ⟨[(0, lv T_api_Frame.enc p0)], []⟩) (tips := []) (by kernel_rfl) all0 (norm ?_)
  refine At.seq ?_
  refine At.seq ?_
  refine At.region_end [0, 3] [] _ (st' := ⟨[(0, lv T_api_Frame.enc p0), (3, i64 0)], []⟩) (tips := []) (by kernel_rfl) all0 (norm ?_)
  refine At.block ?_
  refine At.loop (fun s : (Int) => F_retracelaw04_large_L2 p0 s) (fun s : (Int) => ⟨[(0, lv T_api_Frame.enc p0), (3, i64 s)], []⟩) r 0 h ?_
  intro x22 oo23 h f24
  replace h : F_retracelaw04_large_L2 p0 x22 = some oo23 := h
  rw [F_retracelaw04_large_L2] at h
  refine At.seq ?_
  refine At.seqJ (S := Bool) (fun s => ⟨[(0, lv T_api_Frame.enc p0), (3, i64 x22), (11, bo s)], []⟩) (fun s => F_retracelaw04_large_J1 p0 x22 s = some oo23) ?_ ?_
  · rcases tf (decide (x22 < ((p0).length : Int))) with b42 | b42
    · replace h := cond_t b42 h
      refine At.region_end [0, 3, 11] [] _ (st' := ⟨[(0, lv T_api_Frame.enc p0), (3, i64 x22), (11, bo (decide (x22 < 20)))], []⟩) (tips := [(4, { orc := .val (.bool true) })]) (by kernel_rfl) (allc (congrArg D.bool b42) all0) (fun a w hs => ⟨(decide (x22 < 20)), h, hs⟩)
    · replace h := cond_f b42 h
      refine At.region_end [0, 3, 11] [] _ (st' := ⟨[(0, lv T_api_Frame.enc p0), (3, i64 x22), (11, bo false)], []⟩) (tips := [(4, { orc := .val (.bool false) })]) (by kernel_rfl) (allc (congrArg D.bool b42) all0) (fun a w hs => ⟨false, h, hs⟩)
  · intro x30 h
    replace h : F_retracelaw04_large_J1 p0 x22 x30 = some oo23 := h
    rw [F_retracelaw04_large_J1] at h
    refine At.cond x30 (by kernel_rfl) (fun b31 => ?_) (fun b31 => ?_)
    · replace h := cond_t b31 h
      refine At.nar [0, 3] [] (st' := ⟨[(0, lv T_api_Frame.enc p0), (3, i64 x22)], []⟩) (by kernel_rfl) ?_
      refine At.skip (norm ?_)
      refine At.seq ?_
      refine At.block ?_
      refine At.seq ?_
      obtain ⟨y36, hy36, h⟩ := bind_some h
      refine At.region_end [0, 3, 20] [] _ (st' := ⟨[(0, lv T_api_Frame.enc p0), (3, i64 x22), (20, bo (decide (300 < (y36.Data.size : Int))))], []⟩) (tips := [(2, { orc := .cells (T_api_Frame.enc y36) })]) (by kernel_rfl) (allc (elemAt_of T_api_Frame.enc_len hy36) all0) (norm ?_)
      refine At.cond (decide (300 < (y36.Data.size : Int))) (by kernel_rfl) (fun b37 => ?_) (fun b37 => ?_)
      · replace h := cond_t b37 h
        refine At.seq ?_
        refine At.region_end [2] [] _ (st' := ⟨[(2, bo true)], []⟩) (tips := []) (by kernel_rfl) all0 (norm ?_)
        obtain ⟨r38, h, e39⟩ := map_inr h
        rw [f24 _ e39] at h
        obtain rfl := some_eq h
        exact At.ret fun a w hs => ret_ok hR (ρ := []) (gs := []) (by kernel_rfl) all0 (by kernel_rfl) rfl rfl a w hs _ (.inl rfl)
      · replace h := cond_f b37 h
        refine At.nar [0, 3] [] (st' := ⟨[(0, lv T_api_Frame.enc p0), (3, i64 x22)], []⟩) (by kernel_rfl) ?_
        refine At.skip (norm ?_)
        refine At.region_end [0, 3] [] _ (st' := ⟨[(0, lv T_api_Frame.enc p0), (3, i64 (w64 (x22 + 1)))], []⟩) (tips := []) (by kernel_rfl) all0 (fun a w hs => ⟨_, (some_eq h).symm, hs⟩)
    · replace h := cond_f b31 h
      refine At.nar [0] [] (st' := ⟨[(0, lv T_api_Frame.enc p0)], []⟩) (by kernel_rfl) ?_
      obtain ⟨r40, h, e41⟩ := map_inr h
      rw [f24 _ e41] at h
      refine At.exit (norm ?_)
      refine At.seq ?_
      refine At.region_end [2] [] _ (st' := ⟨[(2, bo (decide (20 < ((p0).length : Int))))], []⟩) (tips := []) (by kernel_rfl) all0 (norm ?_)
      obtain rfl := some_eq h
      exact At.ret fun a w hs => ret_ok hR (ρ := []) (gs := []) (by kernel_rfl) all0 (by kernel_rfl) rfl rfl a w hs _ (.inl rfl)
set_option maxRecDepth 100000 in
theorem C_retraceref04_Right (p0 : (List T_api_Frame)) (r : Bool) (h : F_retraceref04_Right p0 = some r) : FnOK Try.prog 42 [lv T_api_Frame.enc p0] [] (bo r) [] [] := by
  rw [F_retraceref04_Right] at h
  refine FnOK.intro Try.func42 rfl (by kernel_rfl) (by kernel_rfl) fun E gv R hR => ?_
  refine At.seq ?_
  refine At.region_end [0] [] _ (st' := ⟨[(0, lv T_api_Frame.enc p0)], []⟩) (tips := []) (by kernel_rfl) all0 (norm ?_)
  refine At.seq ?_
  refine At.seq ?_
  refine At.region_end [0, 3] [] _ (st' := ⟨[(0, lv T_api_Frame.enc p0), (3, i64 0)], []⟩) (tips := []) (by kernel_rfl) all0 (norm ?_)
  refine At.block ?_
  refine At.loop (fun s : (Int) => F_retraceref04_Right_L2 p0 s) (fun s : (Int) => ⟨[(0, lv T_api_Frame.enc p0), (3, i64 s)], []⟩) r 0 h ?_
  intro x26 oo27 h f28
  replace h : F_retraceref04_Right_L2 p0 x26 = some oo27 := h
  rw [F_retraceref04_Right_L2] at h
  refine At.seq ?_
  refine At.seq ?_
  refine At.region_end [0, 3, 7] [] _ (st' := ⟨[(0, lv T_api_Frame.enc p0), (3, i64 x26), (7, bo (decide (x26 < ((p0).length : Int))))], []⟩) (tips := []) (by kernel_rfl) all0 (norm ?_)
  refine At.cond (decide (x26 < ((p0).length : Int))) (by kernel_rfl) (fun b30 => ?_) (fun b30 => ?_)
  · replace h := cond_t b30 h
    refine At.nar [0, 3] [] (st' := ⟨[(0, lv T_api_Frame.enc p0), (3, i64 x26)], []⟩) (by kernel_rfl) ?_
    refine At.skip (norm ?_)
    refine At.seq ?_
    refine At.block ?_
    refine At.seqJ (S := Bool) (fun s => ⟨[(0, lv T_api_Frame.enc p0), (3, i64 x26), (23, bo s)], []⟩) (fun s => F_retraceref04_Right_J1 x26 s = some oo27) ?_ ?_
    · obtain ⟨y46, hy46, h⟩ := bind_some h
      rcases tf (decide (y46.Kind < 0)) with b47 | b47
      · replace h := cond_t b47 h
        refine At.region_end [0, 3, 23] [] _ (st' := ⟨[(0, lv T_api_Frame.enc p0), (3, i64 x26), (23, bo true)], []⟩) (tips := [(2, { orc := .cells (T_api_Frame.enc y46) }), (6, { orc := .val (.bool true) })]) (by kernel_rfl) (allc (elemAt_of T_api_Frame.enc_len hy46) (allc (congrArg D.bool b47) all0)) (fun a w hs => ⟨true, h, hs⟩)
      · replace h := cond_f b47 h
        obtain ⟨y48, hy48, h⟩ := bind_some h
        refine At.region_end [0, 3, 23] [] _ (st' := ⟨[(0, lv T_api_Frame.enc p0), (3, i64 x26), (23, bo (decide (255 < y48.Kind)))], []⟩) (tips := [(2, { orc := .cells (T_api_Frame.enc y46) }), (6, { orc := .val (.bool false) }), (9, { orc := .cells (T_api_Frame.enc y48) })]) (by kernel_rfl) (allc (elemAt_of T_api_Frame.enc_len hy46) (allc (congrArg D.bool b47) (allc (elemAt_of T_api_Frame.enc_len hy48) all0))) (fun a w hs => ⟨(decide (255 < y48.Kind)), h, hs⟩)
    · intro x42 h
      replace h : F_retraceref04_Right_J1 x26 x42 = some oo27 := h
      rw [F_retraceref04_Right_J1] at h
      refine At.cond x42 (by kernel_rfl) (fun b43 => ?_) (fun b43 => ?_)
      · replace h := cond_t b43 h
        refine At.seq ?_
        refine At.region_end [2] [] _ (st' := ⟨[(2, bo false)], []⟩) (tips := []) (by kernel_rfl) all0 (norm ?_)
        obtain ⟨r44, h, e45⟩ := map_inr h
        rw [f28 _ e45] at h
        obtain rfl := some_eq h
        exact At.ret fun a w hs => ret_ok hR (ρ := []) (gs := []) (by kernel_rfl) all0 (by kernel_rfl) rfl rfl a w hs _ (.inl rfl)
      · replace h := cond_f b43 h
        refine At.nar [0, 3] [] (st' := ⟨[(0, lv T_api_Frame.enc p0), (3, i64 x26)], []⟩) (by kernel_rfl) ?_
        refine At.skip (norm ?_)
        refine At.region_end [0, 3] [] _ (st' := ⟨[(0, lv T_api_Frame.enc p0), (3, i64 (w64 (x26 + 1)))], []⟩) (tips := []) (by kernel_rfl) all0 (fun a w hs => ⟨_, (some_eq h).symm, hs⟩)
  · replace h := cond_f b30 h
    refine At.nar [] [] (st' := ⟨[], []⟩) (by kernel_rfl) ?_
    obtain ⟨r49, h, e50⟩ := map_inr h
    rw [f28 _ e50] at h
    refine At.exit (norm ?_)
    refine At.seq ?_
    refine At.region_end [2] [] _ (st' := ⟨[(2, bo true)], []⟩) (tips := []) (by kernel_rfl) all0 (norm ?_)
    obtain rfl := some_eq h
    exact At.ret fun a w hs => ret_ok hR (ρ := []) (gs := []) (by kernel_rfl) all0 (by kernel_rfl) rfl rfl a w hs _ (.inl rfl)
set_option maxRecDepth 100000 in
theorem C_retracelaw04_FrameCuts (p0 : (List T_api_Frame)) (p1 : Int) (r : Bool) (h : F_retracelaw04_FrameCuts p0 p1 = some r) : FnOK Try.prog 11 [lv T_api_Frame.enc p0, i64 p1] [] (bo r) [] [] := by
  rw [F_retracelaw04_FrameCuts] at h
  refine FnOK.intro Try.func11 rfl (by kernel_rfl) (by kernel_rfl) fun E gv R hR => ?_
  refine At.seq ?_
  refine At.region_end [0, 1] [] _ (st' := ⟨[(0, lv T_api_Frame.enc p0), (1, i64 p1)], []⟩) (tips := []) (by kernel_rfl) all0 (norm ?_)
  refine At.seq ?_
  refine At.seqJ (S := Bool) (fun s => ⟨[(0, lv T_api_Frame.enc p0), (1, i64 p1), (17, bo s)], []⟩) (fun s => F_retracelaw04_FrameCuts_J1 p0 p1 s = some r) ?_ ?_
  · obtain ⟨y87, hy87, h⟩ := bind_some h
    rcases tf y87 with b88 | b88
    · replace h := cond_t b88 h
      refine At.region_end [0, 1, 17] [] _ (st' := ⟨[(0, lv T_api_Frame.enc p0), (1, i64 p1), (17, bo true)], []⟩) (tips := [(1, { pc := some { ρ := [], n0 := 0, res := bo y87, σ' := [], e := [] } }), (2, { orc := .val (.bool true) })]) (by kernel_rfl) (allc (C_retracelaw04_large p0 y87 hy87) (allc (congrArg D.bool b88) all0)) (fun a w hs => ⟨true, h, hs⟩)
    · replace h := cond_f b88 h
      obtain ⟨y89, hy89, h⟩ := bind_some h
      refine At.region_end [0, 1, 17] [] _ (st' := ⟨[(0, lv T_api_Frame.enc p0), (1, i64 p1), (17, bo (!y89))], []⟩) (tips := [(1, { pc := some { ρ := [], n0 := 0, res := bo y87, σ' := [], e := [] } }), (2, { orc := .val (.bool false) }), (4, { pc := some { ρ := [], n0 := 0, res := bo y89, σ' := [], e := [] } })]) (by kernel_rfl) (allc (C_retracelaw04_large p0 y87 hy87) (allc (congrArg D.bool b88) (allc (C_retraceref04_Right p0 y89 hy89) all0))) (fun a w hs => ⟨(!y89), h, hs⟩)
  · intro x14 h
    replace h : F_retracelaw04_FrameCuts_J1 p0 p1 x14 = some r := h
    rw [F_retracelaw04_FrameCuts_J1] at h
    refine At.cond x14 (by kernel_rfl) (fun b15 => ?_) (fun b15 => ?_)
    · replace h := cond_t b15 h
      refine At.seq ?_
      obtain ⟨y17, hy17, h⟩ := bind_some h
      refine At.region_end [4] [] _ (st' := ⟨[(4, bo y17)], []⟩) (tips := [(0, { pc := some { ρ := [], n0 := 0, res := bo y17, σ' := [], e := [] } })]) (by kernel_rfl) (allc (C_retracelaw04_live y17 hy17) all0) (norm ?_)
      obtain rfl := some_eq h
      exact At.ret fun a w hs => ret_ok hR (ρ := []) (gs := []) (by kernel_rfl) all0 (by kernel_rfl) rfl rfl a w hs _ (.inl rfl)
    · replace h := cond_f b15 h
      refine At.nar [0, 1] [] (st' := ⟨[(0, lv T_api_Frame.enc p0), (1, i64 p1)], []⟩) (by kernel_rfl) ?_
      refine At.skip (norm ?_)
      refine At.seq ?_
      obtain ⟨y19, hy19, h⟩ := bind_some h
      refine At.region_end [0, 1, 5, 6] [0] _ (st' := ⟨[(0, lv T_api_Frame.enc p0), (1, i64 p1), (5, sv y19.1), (6, .row 0 (y19.2).length)], [.row 3 1 (encL (eInt .i64) y19.2)]⟩) (tips := [(1, { pc := some { ρ := [0], n0 := 0, res := .tup [sv y19.1, .row 0 (y19.2).length], σ' := [.row 3 1 (encL (eInt .i64) y19.2)], e := [] } })]) (by kernel_rfl) (allc (C_retraceref04_Joined p0 y19 hy19) all0) (norm ?_)
      refine At.seq ?_
      refine At.seqJ (S := Bool) (fun s => ⟨[(0, lv T_api_Frame.enc p0), (1, i64 p1), (5, sv y19.1), (6, .row 0 (y19.2).length), (31, bo s)], [.row 3 1 (encL (eInt .i64) y19.2)]⟩) (fun s => F_retracelaw04_FrameCuts_J2 p0 p1 y19 s = some r) ?_ ?_
      · rcases tf (decide (p1 < 0)) with b86 | b86
        · replace h := cond_t b86 h
          refine At.region_end [0, 1, 5, 6, 31] [0] _ (st' := ⟨[(0, lv T_api_Frame.enc p0), (1, i64 p1), (5, sv y19.1), (6, .row 0 (y19.2).length), (31, bo true)], [.row 3 1 (encL (eInt .i64) y19.2)]⟩) (tips := [(2, { orc := .val (.bool true) })]) (by kernel_rfl) (allc (congrArg D.bool b86) all0) (fun a w hs => ⟨true, h, hs⟩)
        · replace h := cond_f b86 h
          refine At.region_end [0, 1, 5, 6, 31] [0] _ (st' := ⟨[(0, lv T_api_Frame.enc p0), (1, i64 p1), (5, sv y19.1), (6, .row 0 (y19.2).length), (31, bo (decide ((y19.1.size : Int) < p1)))], [.row 3 1 (encL (eInt .i64) y19.2)]⟩) (tips := [(2, { orc := .val (.bool false) })]) (by kernel_rfl) (allc (congrArg D.bool b86) all0) (fun a w hs => ⟨(decide ((y19.1.size : Int) < p1)), h, hs⟩)
      · intro x27 h
        replace h : F_retracelaw04_FrameCuts_J2 p0 p1 y19 x27 = some r := h
        rw [F_retracelaw04_FrameCuts_J2] at h
        refine At.cond x27 (by kernel_rfl) (fun b28 => ?_) (fun b28 => ?_)
        · replace h := cond_t b28 h
          refine At.seq ?_
          obtain ⟨y30, hy30, h⟩ := bind_some h
          refine At.region_end [4] [] _ (st' := ⟨[(4, bo y30)], []⟩) (tips := [(0, { pc := some { ρ := [], n0 := 0, res := bo y30, σ' := [], e := [] } })]) (by kernel_rfl) (allc (C_retracelaw04_live y30 hy30) all0) (norm ?_)
          obtain rfl := some_eq h
          exact At.ret fun a w hs => ret_ok hR (ρ := []) (gs := []) (by kernel_rfl) all0 (by kernel_rfl) rfl rfl a w hs _ (.inl rfl)
        · replace h := cond_f b28 h
          refine At.nar [0, 1, 5, 6] [0] (st' := ⟨[(0, lv T_api_Frame.enc p0), (1, i64 p1), (5, sv y19.1), (6, .row 0 (y19.2).length)], [.row 3 1 (encL (eInt .i64) y19.2)]⟩) (by kernel_rfl) ?_
          refine At.skip (norm ?_)
          refine At.seq ?_
          refine At.region_end [0, 1, 5, 6, 7] [0] _ (st' := ⟨[(0, lv T_api_Frame.enc p0), (1, i64 p1), (5, sv y19.1), (6, .row 0 (y19.2).length), (7, i64 0)], [.row 3 1 (encL (eInt .i64) y19.2)]⟩) (tips := []) (by kernel_rfl) all0 (norm ?_)
          refine At.seq ?_
          refine At.block ?_
          refine At.loop (fun s : (Int) => F_retracelaw04_FrameCuts_L5 p0 p1 y19 s) (fun s : (Int) => ⟨[(0, lv T_api_Frame.enc p0), (1, i64 p1), (5, sv y19.1), (6, .row 0 (y19.2).length), (7, i64 s)], [.row 3 1 (encL (eInt .i64) y19.2)]⟩) r 0 h ?_
          intro x48 oo49 h f50
          replace h : F_retracelaw04_FrameCuts_L5 p0 p1 y19 x48 = some oo49 := h
          rw [F_retracelaw04_FrameCuts_L5] at h
          refine At.seq ?_
          refine At.seqJ (S := Bool) (fun s => ⟨[(0, lv T_api_Frame.enc p0), (1, i64 p1), (5, sv y19.1), (6, .row 0 (y19.2).length), (7, i64 x48), (45, bo s)], [.row 3 1 (encL (eInt .i64) y19.2)]⟩) (fun s => F_retracelaw04_FrameCuts_J3 p0 p1 y19 x48 s = some oo49) ?_ ?_
          · rcases tf (decide (x48 < ((p0).length : Int))) with b84 | b84
            · replace h := cond_t b84 h
              obtain ⟨y85, hy85, h⟩ := bind_some h
              refine At.region_end [0, 1, 5, 6, 7, 45] [0] _ (st' := ⟨[(0, lv T_api_Frame.enc p0), (1, i64 p1), (5, sv y19.1), (6, .row 0 (y19.2).length), (7, i64 x48), (45, bo (decide (y85 ≤ p1)))], [.row 3 1 (encL (eInt .i64) y19.2)]⟩) (tips := [(4, { orc := .val (.bool true) }), (9, { orc := .val (.int .i64 y85) })]) (by kernel_rfl) (allc (congrArg D.bool b84) (allc ((rAt_of (he_int .i64) (d := .int .i64 y85) hy85 rfl).1) (allc ((rAt_of (he_int .i64) (d := .int .i64 y85) hy85 rfl).2) all0))) (fun a w hs => ⟨(decide (y85 ≤ p1)), h, hs⟩)
            · replace h := cond_f b84 h
              refine At.region_end [0, 1, 5, 6, 7, 45] [0] _ (st' := ⟨[(0, lv T_api_Frame.enc p0), (1, i64 p1), (5, sv y19.1), (6, .row 0 (y19.2).length), (7, i64 x48), (45, bo false)], [.row 3 1 (encL (eInt .i64) y19.2)]⟩) (tips := [(4, { orc := .val (.bool false) })]) (by kernel_rfl) (allc (congrArg D.bool b84) all0) (fun a w hs => ⟨false, h, hs⟩)
          · intro x59 h
            replace h : F_retracelaw04_FrameCuts_J3 p0 p1 y19 x48 x59 = some oo49 := h
            rw [F_retracelaw04_FrameCuts_J3] at h
            refine At.cond x59 (by kernel_rfl) (fun b60 => ?_) (fun b60 => ?_)
            · replace h := cond_t b60 h
              refine At.nar [0, 1, 5, 6, 7] [0] (st' := ⟨[(0, lv T_api_Frame.enc p0), (1, i64 p1), (5, sv y19.1), (6, .row 0 (y19.2).length), (7, i64 x48)], [.row 3 1 (encL (eInt .i64) y19.2)]⟩) (by kernel_rfl) ?_
              refine At.skip (norm ?_)
              refine At.block ?_
              refine At.region_end [0, 1, 5, 6, 7] [0] _ (st' := ⟨[(0, lv T_api_Frame.enc p0), (1, i64 p1), (5, sv y19.1), (6, .row 0 (y19.2).length), (7, i64 (w64 (x48 + 1)))], [.row 3 1 (encL (eInt .i64) y19.2)]⟩) (tips := []) (by kernel_rfl) all0 (fun a w hs => ⟨_, (some_eq h).symm, hs⟩)
            · replace h := cond_f b60 h
              refine At.nar [0, 1, 5, 6, 7] [0] (st' := ⟨[(0, lv T_api_Frame.enc p0), (1, i64 p1), (5, sv y19.1), (6, .row 0 (y19.2).length), (7, i64 x48)], [.row 3 1 (encL (eInt .i64) y19.2)]⟩) (by kernel_rfl) ?_
              obtain ⟨r61, h, e62⟩ := map_inr h
              rw [f50 _ e62] at h
              refine At.exit (norm ?_)
              refine At.seq ?_
              obtain ⟨g65, h⟩ := grd_some h
              obtain ⟨y66, hy66, h⟩ := bind_some h
              refine At.region_end [0, 1, 6, 7, 8, 9, 10] [0, 1] _ (st' := ⟨[(0, lv T_api_Frame.enc p0), (1, i64 p1), (6, .row 0 (y19.2).length), (7, i64 x48), (8, .row 1 (y66.1).length), (9, i64 y66.2.1), (10, i64 y66.2.2)], [.row 3 1 (encL (eInt .i64) y19.2), .row 53 2 (encL T_api_Frame.enc y66.1)]⟩) (tips := [(3, { pc := some { ρ := [1], n0 := 0, res := .tup [.row 0 (y66.1).length, i64 y66.2.1, i64 y66.2.2], σ' := [.row 53 2 (encL T_api_Frame.enc y66.1)], e := [] } })]) (by kernel_rfl) (allc g65 (allc (C_frame_All (y19.1.extract (Int.toNat 0) (Int.toNat p1)) y66 hy66) all0)) (norm ?_)
              refine At.seqJ (S := Bool) (fun s => ⟨[(4, bo s)], []⟩) (fun s => F_retracelaw04_FrameCuts_J4 s = some r) ?_ ?_
              · obtain ⟨g76, h⟩ := grd_some h
                obtain ⟨y77, hy77, h⟩ := bind_some h
                rcases tf y77 with b78 | b78
                · replace h := cond_t b78 h
                  obtain ⟨y79, hy79, h⟩ := bind_some h
                  rcases tf (y66.2.1 == y79) with b80 | b80
                  · replace h := cond_t b80 h
                    obtain ⟨y81, hy81, h⟩ := bind_some h
                    rcases tf ((y66.2.2 == 0) == (p1 == y81)) with b82 | b82
                    · replace h := cond_t b82 h
                      obtain ⟨y83, hy83, h⟩ := bind_some h
                      refine At.region_end [4] [] _ (st' := ⟨[(4, bo y83)], []⟩) (tips := [(3, { form := some ((lCut p0 0 x48).length, encL T_api_Frame.enc (lCut p0 0 x48)) }), (4, { settle := [1], pc := some { ρ := [], n0 := 0, res := bo y77, σ' := [], e := [] } }), (5, { orc := .val (.bool true) }), (10, { orc := .val (.int .i64 y79) }), (13, { orc := .val (.bool true) }), (20, { orc := .val (.int .i64 y81) }), (24, { orc := .val (.bool true) }), (25, { pc := some { ρ := [], n0 := 0, res := bo y83, σ' := [], e := [] } })]) (by kernel_rfl) (allc ((cut_ok T_api_Frame.enc_len g76).1) (allc ((cut_ok T_api_Frame.enc_len g76).2) (allc g76 (allc (C_retraceref04_Same y66.1 (lCut p0 0 x48) y77 hy77) (allc (congrArg D.bool b78) (allc ((rAt_of (he_int .i64) (d := .int .i64 y79) hy79 rfl).1) (allc ((rAt_of (he_int .i64) (d := .int .i64 y79) hy79 rfl).2) (allc (congrArg D.bool b80) (allc ((rAt_of (he_int .i64) (d := .int .i64 y81) hy81 rfl).1) (allc ((rAt_of (he_int .i64) (d := .int .i64 y81) hy81 rfl).2) (allc (congrArg D.bool b82) (allc (C_retracelaw04_live y83 hy83) all0)))))))))))) (fun a w hs => ⟨y83, h, hs⟩)
                    · replace h := cond_f b82 h
                      refine At.region_end [4] [] _ (st' := ⟨[(4, bo false)], []⟩) (tips := [(3, { form := some ((lCut p0 0 x48).length, encL T_api_Frame.enc (lCut p0 0 x48)) }), (4, { settle := [1], pc := some { ρ := [], n0 := 0, res := bo y77, σ' := [], e := [] } }), (5, { orc := .val (.bool true) }), (10, { orc := .val (.int .i64 y79) }), (13, { orc := .val (.bool true) }), (20, { orc := .val (.int .i64 y81) }), (24, { orc := .val (.bool false) })]) (by kernel_rfl) (allc ((cut_ok T_api_Frame.enc_len g76).1) (allc ((cut_ok T_api_Frame.enc_len g76).2) (allc g76 (allc (C_retraceref04_Same y66.1 (lCut p0 0 x48) y77 hy77) (allc (congrArg D.bool b78) (allc ((rAt_of (he_int .i64) (d := .int .i64 y79) hy79 rfl).1) (allc ((rAt_of (he_int .i64) (d := .int .i64 y79) hy79 rfl).2) (allc (congrArg D.bool b80) (allc ((rAt_of (he_int .i64) (d := .int .i64 y81) hy81 rfl).1) (allc ((rAt_of (he_int .i64) (d := .int .i64 y81) hy81 rfl).2) (allc (congrArg D.bool b82) all0))))))))))) (fun a w hs => ⟨false, h, hs⟩)
                  · replace h := cond_f b80 h
                    refine At.region_end [4] [] _ (st' := ⟨[(4, bo false)], []⟩) (tips := [(3, { form := some ((lCut p0 0 x48).length, encL T_api_Frame.enc (lCut p0 0 x48)) }), (4, { settle := [1], pc := some { ρ := [], n0 := 0, res := bo y77, σ' := [], e := [] } }), (5, { orc := .val (.bool true) }), (10, { orc := .val (.int .i64 y79) }), (13, { orc := .val (.bool false) })]) (by kernel_rfl) (allc ((cut_ok T_api_Frame.enc_len g76).1) (allc ((cut_ok T_api_Frame.enc_len g76).2) (allc g76 (allc (C_retraceref04_Same y66.1 (lCut p0 0 x48) y77 hy77) (allc (congrArg D.bool b78) (allc ((rAt_of (he_int .i64) (d := .int .i64 y79) hy79 rfl).1) (allc ((rAt_of (he_int .i64) (d := .int .i64 y79) hy79 rfl).2) (allc (congrArg D.bool b80) all0)))))))) (fun a w hs => ⟨false, h, hs⟩)
                · replace h := cond_f b78 h
                  refine At.region_end [4] [] _ (st' := ⟨[(4, bo false)], []⟩) (tips := [(3, { form := some ((lCut p0 0 x48).length, encL T_api_Frame.enc (lCut p0 0 x48)) }), (4, { settle := [1], pc := some { ρ := [], n0 := 0, res := bo y77, σ' := [], e := [] } }), (5, { orc := .val (.bool false) })]) (by kernel_rfl) (allc ((cut_ok T_api_Frame.enc_len g76).1) (allc ((cut_ok T_api_Frame.enc_len g76).2) (allc g76 (allc (C_retraceref04_Same y66.1 (lCut p0 0 x48) y77 hy77) (allc (congrArg D.bool b78) all0))))) (fun a w hs => ⟨false, h, hs⟩)
              · intro x75 h
                replace h : F_retracelaw04_FrameCuts_J4 x75 = some r := h
                rw [F_retracelaw04_FrameCuts_J4] at h
                obtain rfl := some_eq h
                exact At.ret fun a w hs => ret_ok hR (ρ := []) (gs := []) (by kernel_rfl) all0 (by kernel_rfl) rfl rfl a w hs _ (.inl rfl)
set_option maxRecDepth 100000 in
theorem C_retraceref02_Turned (p0 : ByteArray) (p1 : Int) (p2 : Int) (r : ByteArray) (h : F_retraceref02_Turned p0 p1 p2 = some r) : FnOK Try.prog 43 [sv p0, i64 p1, u32 p2] [] (sv r) [] [] := by
  rw [F_retraceref02_Turned] at h
  refine FnOK.intro Try.func43 rfl (by kernel_rfl) (by kernel_rfl) fun E gv R hR => ?_
  refine At.seq ?_
  refine At.region_end [0, 1, 2] [] _ (st' := ⟨[(0, sv p0), (1, i64 p1), (2, u32 p2)], []⟩) (tips := []) (by kernel_rfl) all0 (norm ?_)
  refine At.seq ?_
  obtain ⟨g2, h⟩ := grd_some h
  refine At.region_end [1, 2, 7] [0] _ (st' := ⟨[(1, i64 p1), (2, u32 p2), (7, .row 0 ((sB p0)).length)], [.row 5 1 (encL (eInt .u8) (sB p0))]⟩) (tips := [(1, { form := some ((sB p0).length, encL (eInt .u8) (sB p0)) })]) (by kernel_rfl) (allc (len_sB p0) (allc (encL_sB p0) (allc g2 all0))) (norm ?_)
  refine At.seq ?_
  refine At.seq ?_
  refine At.region_end [1, 2, 7, 8] [0] _ (st' := ⟨[(1, i64 p1), (2, u32 p2), (7, .row 0 ((sB p0)).length), (8, i64 0)], [.row 5 1 (encL (eInt .u8) (sB p0))]⟩) (tips := []) (by kernel_rfl) all0 (norm ?_)
  refine At.block ?_
  refine At.loop (fun s : (Int × (List Int)) => F_retraceref02_Turned_L3 p1 p2 s.1 s.2) (fun s : (Int × (List Int)) => ⟨[(1, i64 p1), (2, u32 p2), (7, .row 0 (s.2).length), (8, i64 s.1)], [.row 5 1 (encL (eInt .u8) s.2)]⟩) r (0, (sB p0)) h ?_
  rintro ⟨x34, x35⟩ oo36 h f37
  replace h : F_retraceref02_Turned_L3 p1 p2 x34 x35 = some oo36 := h
  rw [F_retraceref02_Turned_L3] at h
  refine At.seq ?_
  refine At.seq ?_
  refine At.region_end [1, 2, 7, 8, 13] [0] _ (st' := ⟨[(1, i64 p1), (2, u32 p2), (7, .row 0 (x35).length), (8, i64 x34), (13, bo (decide (x34 < 32)))], [.row 5 1 (encL (eInt .u8) x35)]⟩) (tips := []) (by kernel_rfl) all0 (norm ?_)
  refine At.cond (decide (x34 < 32)) (by kernel_rfl) (fun b39 => ?_) (fun b39 => ?_)
  · replace h := cond_t b39 h
    refine At.nar [1, 2, 7, 8] [0] (st' := ⟨[(1, i64 p1), (2, u32 p2), (7, .row 0 (x35).length), (8, i64 x34)], [.row 5 1 (encL (eInt .u8) x35)]⟩) (by kernel_rfl) ?_
    refine At.skip (norm ?_)
    refine At.seqJ (S := (List Int)) (fun s => ⟨[(1, i64 p1), (2, u32 p2), (7, .row 0 (s).length), (8, i64 x34)], [.row 5 1 (encL (eInt .u8) s)]⟩) (fun s => F_retraceref02_Turned_J1 x34 s = some oo36) ?_ ?_
    · refine At.block ?_
      refine At.seqJ (S := Bool) (fun s => ⟨[(1, i64 p1), (2, u32 p2), (7, .row 0 (x35).length), (8, i64 x34), (36, bo s)], [.row 5 1 (encL (eInt .u8) x35)]⟩) (fun s => F_retraceref02_Turned_J2 p1 x34 x35 s = some oo36) ?_ ?_
      · obtain ⟨g60, h⟩ := grd_some h
        rcases tf ((bits .and .u32 (Int.fdiv p2 (2 ^ (min (Int.toNat (wu64 x34)) 32))) 1) == 1) with b61 | b61
        · replace h := cond_t b61 h
          rcases tf (decide (0 ≤ (w64 (p1 + x34)))) with b62 | b62
          · replace h := cond_t b62 h
            refine At.region_end [1, 2, 7, 8, 36] [0] _ (st' := ⟨[(1, i64 p1), (2, u32 p2), (7, .row 0 (x35).length), (8, i64 x34), (36, bo (decide ((w64 (p1 + x34)) < (w64 (8 * ((x35).length : Int))))))], [.row 5 1 (encL (eInt .u8) x35)]⟩) (tips := [(6, { orc := .val (.bool true) }), (12, { orc := .val (.bool true) })]) (by kernel_rfl) (allc g60 (allc (congrArg D.bool b61) (allc (congrArg D.bool b62) all0))) (fun a w hs => ⟨(decide ((w64 (p1 + x34)) < (w64 (8 * ((x35).length : Int))))), h, hs⟩)
          · replace h := cond_f b62 h
            refine At.region_end [1, 2, 7, 8, 36] [0] _ (st' := ⟨[(1, i64 p1), (2, u32 p2), (7, .row 0 (x35).length), (8, i64 x34), (36, bo false)], [.row 5 1 (encL (eInt .u8) x35)]⟩) (tips := [(6, { orc := .val (.bool true) }), (12, { orc := .val (.bool false) })]) (by kernel_rfl) (allc g60 (allc (congrArg D.bool b61) (allc (congrArg D.bool b62) all0))) (fun a w hs => ⟨false, h, hs⟩)
        · replace h := cond_f b61 h
          refine At.region_end [1, 2, 7, 8, 36] [0] _ (st' := ⟨[(1, i64 p1), (2, u32 p2), (7, .row 0 (x35).length), (8, i64 x34), (36, bo false)], [.row 5 1 (encL (eInt .u8) x35)]⟩) (tips := [(6, { orc := .val (.bool false) })]) (by kernel_rfl) (allc g60 (allc (congrArg D.bool b61) all0)) (fun a w hs => ⟨false, h, hs⟩)
      · intro x55 h
        replace h : F_retraceref02_Turned_J2 p1 x34 x35 x55 = some oo36 := h
        rw [F_retraceref02_Turned_J2] at h
        refine At.cond x55 (by kernel_rfl) (fun b56 => ?_) (fun b56 => ?_)
        · replace h := cond_t b56 h
          refine At.seq ?_
          refine At.region_end [1, 2, 7, 8, 9] [0] _ (st' := ⟨[(1, i64 p1), (2, u32 p2), (7, .row 0 (x35).length), (8, i64 x34), (9, i64 (w64 (Int.tdiv (w64 (p1 + x34)) 8)))], [.row 5 1 (encL (eInt .u8) x35)]⟩) (tips := []) (by kernel_rfl) (allc (by decide : 8 ≠ (0:Int)) all0) (norm ?_)
          obtain ⟨y57, hy57, h⟩ := bind_some h
          obtain ⟨g58, h⟩ := grd_some h
          obtain ⟨g59, h⟩ := grd_some h
          refine At.region_end [1, 2, 7, 8] [0] _ (st' := ⟨[(1, i64 p1), (2, u32 p2), (7, .row 0 (x35).length), (8, i64 x34)], [.row 5 1 (encL (eInt .u8) (List.set x35 (Int.toNat (w64 (Int.tdiv (w64 (p1 + x34)) 8))) (bits .xor .u8 y57 (wu8 (1 * 2 ^ (min (Int.toNat (wu64 (Int.tmod (w64 (p1 + x34)) 8))) 8))))))]⟩) (tips := [(5, { orc := .val (.int .u8 y57) }), (14, { form := some (0, encL (eInt .u8) (List.set x35 (Int.toNat (w64 (Int.tdiv (w64 (p1 + x34)) 8))) (bits .xor .u8 y57 (wu8 (1 * 2 ^ (min (Int.toNat (wu64 (Int.tmod (w64 (p1 + x34)) 8))) 8)))))), obj := 0 })]) (by kernel_rfl) (allc ((rAt_of (he_int .u8) (d := .int .u8 y57) hy57 rfl).1) (allc ((rAt_of (he_int .u8) (d := .int .u8 y57) hy57 rfl).2) (allc (by decide : 8 ≠ (0:Int)) (allc g58 (allc (g59 : Within _ _) (allc ((rSet_ok (he_int .u8) (bits .xor .u8 y57 (wu8 (1 * 2 ^ (min (Int.toNat (wu64 (Int.tmod (w64 (p1 + x34)) 8))) 8)))) g59).1) (allc ((rSet_ok (he_int .u8) (bits .xor .u8 y57 (wu8 (1 * 2 ^ (min (Int.toNat (wu64 (Int.tmod (w64 (p1 + x34)) 8))) 8)))) g59).2) all0))))))) (relen (st2 := ⟨[(1, i64 p1), (2, u32 p2), (7, .row 0 ((List.set x35 (Int.toNat (w64 (Int.tdiv (w64 (p1 + x34)) 8))) (bits .xor .u8 y57 (wu8 (1 * 2 ^ (min (Int.toNat (wu64 (Int.tmod (w64 (p1 + x34)) 8))) 8)))))).length), (8, i64 x34)], [.row 5 1 (encL (eInt .u8) (List.set x35 (Int.toNat (w64 (Int.tdiv (w64 (p1 + x34)) 8))) (bits .xor .u8 y57 (wu8 (1 * 2 ^ (min (Int.toNat (wu64 (Int.tmod (w64 (p1 + x34)) 8))) 8))))))]⟩) (by simp only [List.length_set]) (fun a w hs => ⟨(List.set x35 (Int.toNat (w64 (Int.tdiv (w64 (p1 + x34)) 8))) (bits .xor .u8 y57 (wu8 (1 * 2 ^ (min (Int.toNat (wu64 (Int.tmod (w64 (p1 + x34)) 8))) 8))))), h, hs⟩))
        · replace h := cond_f b56 h
          refine At.nar [1, 2, 7, 8] [0] (st' := ⟨[(1, i64 p1), (2, u32 p2), (7, .row 0 (x35).length), (8, i64 x34)], [.row 5 1 (encL (eInt .u8) x35)]⟩) (by kernel_rfl) ?_
          refine At.skip (fun a w hs => ⟨x35, h, hs⟩)
    · intro x51 h
      replace h : F_retraceref02_Turned_J1 x34 x51 = some oo36 := h
      rw [F_retraceref02_Turned_J1] at h
      refine At.region_end [1, 2, 7, 8] [0] _ (st' := ⟨[(1, i64 p1), (2, u32 p2), (7, .row 0 (x51).length), (8, i64 (w64 (x34 + 1)))], [.row 5 1 (encL (eInt .u8) x51)]⟩) (tips := []) (by kernel_rfl) all0 (fun a w hs => ⟨_, (some_eq h).symm, hs⟩)
  · replace h := cond_f b39 h
    refine At.nar [7] [0] (st' := ⟨[(7, .row 0 (x35).length)], [.row 5 1 (encL (eInt .u8) x35)]⟩) (by kernel_rfl) ?_
    obtain ⟨r63, h, e64⟩ := map_inr h
    rw [f37 _ e64] at h
    refine At.exit (norm ?_)
    refine At.seq ?_
    refine At.region_end [6] [] _ (st' := ⟨[(6, sv (strOfNums x35))], []⟩) (tips := [(1, { orc := .nums x35 })]) (by kernel_rfl) (allc (encL_map .u8 x35) (allc (rfl : (x35).length = (x35).length) all0)) (norm ?_)
    obtain rfl := some_eq h
    exact At.ret fun a w hs => ret_ok hR (ρ := []) (gs := []) (by kernel_rfl) all0 (by kernel_rfl) rfl rfl a w hs _ (.inl rfl)
set_option maxRecDepth 100000 in
theorem C_retracelaw04_FrameBursts (p0 : (List T_api_Frame)) (p1 : Int) (p2 : Int) (p3 : Int) (r : Bool) (h : F_retracelaw04_FrameBursts p0 p1 p2 p3 = some r) : FnOK Try.prog 12 [lv T_api_Frame.enc p0, i64 p1, i64 p2, u32 p3] [] (bo r) [] [] := by
  rw [F_retracelaw04_FrameBursts] at h
  refine FnOK.intro Try.func12 rfl (by kernel_rfl) (by kernel_rfl) fun E gv R hR => ?_
  refine At.seq ?_
  refine At.region_end [0, 1, 2, 3] [] _ (st' := ⟨[(0, lv T_api_Frame.enc p0), (1, i64 p1), (2, i64 p2), (3, u32 p3)], []⟩) (tips := []) (by kernel_rfl) all0 (norm ?_)
  refine At.seq ?_
  refine At.seqJ (S := Bool) (fun s => ⟨[(0, lv T_api_Frame.enc p0), (1, i64 p1), (2, i64 p2), (3, u32 p3), (32, bo s)], []⟩) (fun s => F_retracelaw04_FrameBursts_J1 p0 p1 p2 p3 s = some r) ?_ ?_
  · obtain ⟨y99, hy99, h⟩ := bind_some h
    rcases tf y99 with b100 | b100
    · replace h := cond_t b100 h
      refine At.region_end [0, 1, 2, 3, 32] [] _ (st' := ⟨[(0, lv T_api_Frame.enc p0), (1, i64 p1), (2, i64 p2), (3, u32 p3), (32, bo true)], []⟩) (tips := [(1, { pc := some { ρ := [], n0 := 0, res := bo y99, σ' := [], e := [] } }), (2, { orc := .val (.bool true) })]) (by kernel_rfl) (allc (C_retracelaw04_large p0 y99 hy99) (allc (congrArg D.bool b100) all0)) (fun a w hs => ⟨true, h, hs⟩)
    · replace h := cond_f b100 h
      obtain ⟨y101, hy101, h⟩ := bind_some h
      rcases tf (!y101) with b102 | b102
      · replace h := cond_t b102 h
        refine At.region_end [0, 1, 2, 3, 32] [] _ (st' := ⟨[(0, lv T_api_Frame.enc p0), (1, i64 p1), (2, i64 p2), (3, u32 p3), (32, bo true)], []⟩) (tips := [(1, { pc := some { ρ := [], n0 := 0, res := bo y99, σ' := [], e := [] } }), (2, { orc := .val (.bool false) }), (4, { pc := some { ρ := [], n0 := 0, res := bo y101, σ' := [], e := [] } }), (7, { orc := .val (.bool true) })]) (by kernel_rfl) (allc (C_retracelaw04_large p0 y99 hy99) (allc (congrArg D.bool b100) (allc (C_retraceref04_Right p0 y101 hy101) (allc (congrArg D.bool b102) all0)))) (fun a w hs => ⟨true, h, hs⟩)
      · replace h := cond_f b102 h
        rcases tf (decide (p1 < 0)) with b103 | b103
        · replace h := cond_t b103 h
          refine At.region_end [0, 1, 2, 3, 32] [] _ (st' := ⟨[(0, lv T_api_Frame.enc p0), (1, i64 p1), (2, i64 p2), (3, u32 p3), (32, bo true)], []⟩) (tips := [(1, { pc := some { ρ := [], n0 := 0, res := bo y99, σ' := [], e := [] } }), (2, { orc := .val (.bool false) }), (4, { pc := some { ρ := [], n0 := 0, res := bo y101, σ' := [], e := [] } }), (7, { orc := .val (.bool false) }), (11, { orc := .val (.bool true) })]) (by kernel_rfl) (allc (C_retracelaw04_large p0 y99 hy99) (allc (congrArg D.bool b100) (allc (C_retraceref04_Right p0 y101 hy101) (allc (congrArg D.bool b102) (allc (congrArg D.bool b103) all0))))) (fun a w hs => ⟨true, h, hs⟩)
        · replace h := cond_f b103 h
          refine At.region_end [0, 1, 2, 3, 32] [] _ (st' := ⟨[(0, lv T_api_Frame.enc p0), (1, i64 p1), (2, i64 p2), (3, u32 p3), (32, bo (decide (((p0).length : Int) ≤ p1)))], []⟩) (tips := [(1, { pc := some { ρ := [], n0 := 0, res := bo y99, σ' := [], e := [] } }), (2, { orc := .val (.bool false) }), (4, { pc := some { ρ := [], n0 := 0, res := bo y101, σ' := [], e := [] } }), (7, { orc := .val (.bool false) }), (11, { orc := .val (.bool false) })]) (by kernel_rfl) (allc (C_retracelaw04_large p0 y99 hy99) (allc (congrArg D.bool b100) (allc (C_retraceref04_Right p0 y101 hy101) (allc (congrArg D.bool b102) (allc (congrArg D.bool b103) all0))))) (fun a w hs => ⟨(decide (((p0).length : Int) ≤ p1)), h, hs⟩)
  · intro x20 h
    replace h : F_retracelaw04_FrameBursts_J1 p0 p1 p2 p3 x20 = some r := h
    rw [F_retracelaw04_FrameBursts_J1] at h
    refine At.cond x20 (by kernel_rfl) (fun b21 => ?_) (fun b21 => ?_)
    · replace h := cond_t b21 h
      refine At.seq ?_
      obtain ⟨y23, hy23, h⟩ := bind_some h
      refine At.region_end [8] [] _ (st' := ⟨[(8, bo y23)], []⟩) (tips := [(0, { pc := some { ρ := [], n0 := 0, res := bo y23, σ' := [], e := [] } })]) (by kernel_rfl) (allc (C_retracelaw04_live y23 hy23) all0) (norm ?_)
      obtain rfl := some_eq h
      exact At.ret fun a w hs => ret_ok hR (ρ := []) (gs := []) (by kernel_rfl) all0 (by kernel_rfl) rfl rfl a w hs _ (.inl rfl)
    · replace h := cond_f b21 h
      refine At.nar [0, 1, 2, 3] [] (st' := ⟨[(0, lv T_api_Frame.enc p0), (1, i64 p1), (2, i64 p2), (3, u32 p3)], []⟩) (by kernel_rfl) ?_
      refine At.skip (norm ?_)
      refine At.seq ?_
      obtain ⟨y25, hy25, h⟩ := bind_some h
      refine At.region_end [0, 1, 2, 3, 9, 10] [0] _ (st' := ⟨[(0, lv T_api_Frame.enc p0), (1, i64 p1), (2, i64 p2), (3, u32 p3), (9, sv y25.1), (10, .row 0 (y25.2).length)], [.row 3 1 (encL (eInt .i64) y25.2)]⟩) (tips := [(1, { pc := some { ρ := [0], n0 := 0, res := .tup [sv y25.1, .row 0 (y25.2).length], σ' := [.row 3 1 (encL (eInt .i64) y25.2)], e := [] } })]) (by kernel_rfl) (allc (C_retraceref04_Joined p0 y25 hy25) all0) (norm ?_)
      refine At.seq ?_
      obtain ⟨y28, hy28, h⟩ := bind_some h
      obtain ⟨y29, hy29, h⟩ := bind_some h
      refine At.draw_end mixedOrd 0 [0, 1, 2, 3, 9, 10, 11] [0] _ (st' := ⟨[(0, lv T_api_Frame.enc p0), (1, i64 p1), (2, i64 p2), (3, u32 p3), (9, sv y25.1), (10, .row 0 (y25.2).length), (11, i64 (w64 ((w64 (y28 - 4)) - (y29.Data.size : Int))))], [.row 3 1 (encL (eInt .i64) y25.2)]⟩) (tips := [(0, { r := 1 }), (3, { r := 1 }), (4, { tip := { orc := .val (.int .i64 y28) }, T := [0], r := 1 }), (8, { tip := { orc := .cells (T_api_Frame.enc y29) } }), (11, { r := 1 })]) (by kernel_rfl) (allc ((rAt_of (he_int .i64) (d := .int .i64 y28) hy28 rfl).1) (allc ((rAt_of (he_int .i64) (d := .int .i64 y28) hy28 rfl).2) (allc (elemAt_of T_api_Frame.enc_len hy29) all0))) (norm ?_)
      refine At.seq ?_
      refine At.seqJ (S := Bool) (fun s => ⟨[(0, lv T_api_Frame.enc p0), (1, i64 p1), (2, i64 p2), (3, u32 p3), (9, sv y25.1), (10, .row 0 (y25.2).length), (11, i64 (w64 ((w64 (y28 - 4)) - (y29.Data.size : Int)))), (65, bo s)], [.row 3 1 (encL (eInt .i64) y25.2)]⟩) (fun s => F_retracelaw04_FrameBursts_J2 p0 p1 p2 p3 y25 y28 y29 s = some r) ?_ ?_
      · rcases tf (decide (p2 < 0)) with b97 | b97
        · replace h := cond_t b97 h
          refine At.region_end [0, 1, 2, 3, 9, 10, 11, 65] [0] _ (st' := ⟨[(0, lv T_api_Frame.enc p0), (1, i64 p1), (2, i64 p2), (3, u32 p3), (9, sv y25.1), (10, .row 0 (y25.2).length), (11, i64 (w64 ((w64 (y28 - 4)) - (y29.Data.size : Int)))), (65, bo true)], [.row 3 1 (encL (eInt .i64) y25.2)]⟩) (tips := [(2, { orc := .val (.bool true) })]) (by kernel_rfl) (allc (congrArg D.bool b97) all0) (fun a w hs => ⟨true, h, hs⟩)
        · replace h := cond_f b97 h
          obtain ⟨y98, hy98, h⟩ := bind_some h
          refine At.region_end [0, 1, 2, 3, 9, 10, 11, 65] [0] _ (st' := ⟨[(0, lv T_api_Frame.enc p0), (1, i64 p1), (2, i64 p2), (3, u32 p3), (9, sv y25.1), (10, .row 0 (y25.2).length), (11, i64 (w64 ((w64 (y28 - 4)) - (y29.Data.size : Int)))), (65, bo (decide ((w64 (8 * (w64 ((y98.Data.size : Int) + 4)))) ≤ p2)))], [.row 3 1 (encL (eInt .i64) y25.2)]⟩) (tips := [(2, { orc := .val (.bool false) }), (6, { orc := .cells (T_api_Frame.enc y98) })]) (by kernel_rfl) (allc (congrArg D.bool b97) (allc (elemAt_of T_api_Frame.enc_len hy98) all0)) (fun a w hs => ⟨(decide ((w64 (8 * (w64 ((y98.Data.size : Int) + 4)))) ≤ p2)), h, hs⟩)
      · intro x40 h
        replace h : F_retracelaw04_FrameBursts_J2 p0 p1 p2 p3 y25 y28 y29 x40 = some r := h
        rw [F_retracelaw04_FrameBursts_J2] at h
        refine At.cond x40 (by kernel_rfl) (fun b41 => ?_) (fun b41 => ?_)
        · replace h := cond_t b41 h
          refine At.seq ?_
          obtain ⟨y43, hy43, h⟩ := bind_some h
          refine At.region_end [8] [] _ (st' := ⟨[(8, bo y43)], []⟩) (tips := [(0, { pc := some { ρ := [], n0 := 0, res := bo y43, σ' := [], e := [] } })]) (by kernel_rfl) (allc (C_retracelaw04_live y43 hy43) all0) (norm ?_)
          obtain rfl := some_eq h
          exact At.ret fun a w hs => ret_ok hR (ρ := []) (gs := []) (by kernel_rfl) all0 (by kernel_rfl) rfl rfl a w hs _ (.inl rfl)
        · replace h := cond_f b41 h
          refine At.nar [0, 1, 2, 3, 9, 10, 11] [0] (st' := ⟨[(0, lv T_api_Frame.enc p0), (1, i64 p1), (2, i64 p2), (3, u32 p3), (9, sv y25.1), (10, .row 0 (y25.2).length), (11, i64 (w64 ((w64 (y28 - 4)) - (y29.Data.size : Int))))], [.row 3 1 (encL (eInt .i64) y25.2)]⟩) (by kernel_rfl) ?_
          refine At.skip (norm ?_)
          refine At.seq ?_
          obtain ⟨g52, h⟩ := grd_some h
          obtain ⟨y53, hy53, h⟩ := bind_some h
          obtain ⟨g54, h⟩ := grd_some h
          obtain ⟨y55, hy55, h⟩ := bind_some h
          obtain ⟨g56, h⟩ := grd_some h
          obtain ⟨y57, hy57, h⟩ := bind_some h
          obtain ⟨g58, h⟩ := grd_some h
          obtain ⟨g59, h⟩ := grd_some h
          refine At.draw_end mixedOrd 0 [0, 1, 9, 10, 12] [0] _ (st' := ⟨[(0, lv T_api_Frame.enc p0), (1, i64 p1), (9, sv y25.1), (10, .row 0 (y25.2).length), (12, sv (((y25.1.extract (Int.toNat 0) (Int.toNat (w64 ((w64 (y28 - 4)) - (y29.Data.size : Int))))) ++ y55) ++ (y25.1.extract (Int.toNat y57) (Int.toNat (y25.1.size : Int)))))], [.row 3 1 (encL (eInt .i64) y25.2)]⟩) (tips := [(5, { r := 1 }), (8, { r := 1 }), (9, { tip := { orc := .val (.int .i64 y53) }, T := [0], r := 1 }), (13, { tip := { pc := some { ρ := [], n0 := 0, res := sv y55, σ' := [], e := [] } }, r := 1 }), (16, { r := 1 }), (19, { r := 1 }), (20, { tip := { orc := .val (.int .i64 y57) }, T := [0], r := 1 })]) (by kernel_rfl) (allc g52 (allc ((rAt_of (he_int .i64) (d := .int .i64 y53) hy53 rfl).1) (allc ((rAt_of (he_int .i64) (d := .int .i64 y53) hy53 rfl).2) (allc g54 (allc (C_retraceref02_Turned (y25.1.extract (Int.toNat (w64 ((w64 (y28 - 4)) - (y29.Data.size : Int)))) (Int.toNat y53)) p2 p3 y55 hy55) (allc g56 (allc ((rAt_of (he_int .i64) (d := .int .i64 y57) hy57 rfl).1) (allc ((rAt_of (he_int .i64) (d := .int .i64 y57) hy57 rfl).2) (allc g58 (allc g59 all0)))))))))) (norm ?_)
          refine At.seq ?_
          obtain ⟨y61, hy61, h⟩ := bind_some h
          refine At.region_end [0, 1, 9, 10, 12, 13, 14, 15] [0, 1] _ (st' := ⟨[(0, lv T_api_Frame.enc p0), (1, i64 p1), (9, sv y25.1), (10, .row 0 (y25.2).length), (12, sv (((y25.1.extract (Int.toNat 0) (Int.toNat (w64 ((w64 (y28 - 4)) - (y29.Data.size : Int))))) ++ y55) ++ (y25.1.extract (Int.toNat y57) (Int.toNat (y25.1.size : Int))))), (13, .row 1 (y61.1).length), (14, i64 y61.2.1), (15, i64 y61.2.2)], [.row 3 1 (encL (eInt .i64) y25.2), .row 53 2 (encL T_api_Frame.enc y61.1)]⟩) (tips := [(1, { pc := some { ρ := [1], n0 := 0, res := .tup [.row 0 (y61.1).length, i64 y61.2.1, i64 y61.2.2], σ' := [.row 53 2 (encL T_api_Frame.enc y61.1)], e := [] } })]) (by kernel_rfl) (allc (C_frame_All (((y25.1.extract (Int.toNat 0) (Int.toNat (w64 ((w64 (y28 - 4)) - (y29.Data.size : Int))))) ++ y55) ++ (y25.1.extract (Int.toNat y57) (Int.toNat (y25.1.size : Int)))) y61 hy61) all0) (norm ?_)
          refine At.seq ?_
          refine At.seq ?_
          refine At.region_end [0, 1, 10, 13, 14, 15, 98] [0, 1] _ (st' := ⟨[(0, lv T_api_Frame.enc p0), (1, i64 p1), (10, .row 0 (y25.2).length), (13, .row 1 (y61.1).length), (14, i64 y61.2.1), (15, i64 y61.2.2), (98, bo ((((y25.1.extract (Int.toNat 0) (Int.toNat (w64 ((w64 (y28 - 4)) - (y29.Data.size : Int))))) ++ y55) ++ (y25.1.extract (Int.toNat y57) (Int.toNat (y25.1.size : Int)))).toList == y25.1.toList))], [.row 3 1 (encL (eInt .i64) y25.2), .row 53 2 (encL T_api_Frame.enc y61.1)]⟩) (tips := []) (by kernel_rfl) all0 (norm ?_)
          refine At.cond ((((y25.1.extract (Int.toNat 0) (Int.toNat (w64 ((w64 (y28 - 4)) - (y29.Data.size : Int))))) ++ y55) ++ (y25.1.extract (Int.toNat y57) (Int.toNat (y25.1.size : Int)))).toList == y25.1.toList) (by kernel_rfl) (fun b72 => ?_) (fun b72 => ?_)
          · replace h := cond_t b72 h
            refine At.seqJ (S := Bool) (fun s => ⟨[(8, bo s)], []⟩) (fun s => F_retracelaw04_FrameBursts_J3 s = some r) ?_ ?_
            · obtain ⟨y78, hy78, h⟩ := bind_some h
              rcases tf y78 with b79 | b79
              · replace h := cond_t b79 h
                rcases tf (y61.2.2 == 0) with b80 | b80
                · replace h := cond_t b80 h
                  obtain ⟨y81, hy81, h⟩ := bind_some h
                  refine At.region_end [8] [] _ (st' := ⟨[(8, bo y81)], []⟩) (tips := [(2, { settle := [1], pc := some { ρ := [], n0 := 0, res := bo y78, σ' := [], e := [] } }), (3, { orc := .val (.bool true) }), (7, { orc := .val (.bool true) }), (8, { pc := some { ρ := [], n0 := 0, res := bo y81, σ' := [], e := [] } })]) (by kernel_rfl) (allc (C_retraceref04_Same y61.1 p0 y78 hy78) (allc (congrArg D.bool b79) (allc (congrArg D.bool b80) (allc (C_retracelaw04_live y81 hy81) all0)))) (fun a w hs => ⟨y81, h, hs⟩)
                · replace h := cond_f b80 h
                  refine At.region_end [8] [] _ (st' := ⟨[(8, bo false)], []⟩) (tips := [(2, { settle := [1], pc := some { ρ := [], n0 := 0, res := bo y78, σ' := [], e := [] } }), (3, { orc := .val (.bool true) }), (7, { orc := .val (.bool false) })]) (by kernel_rfl) (allc (C_retraceref04_Same y61.1 p0 y78 hy78) (allc (congrArg D.bool b79) (allc (congrArg D.bool b80) all0))) (fun a w hs => ⟨false, h, hs⟩)
              · replace h := cond_f b79 h
                refine At.region_end [8] [] _ (st' := ⟨[(8, bo false)], []⟩) (tips := [(2, { settle := [1], pc := some { ρ := [], n0 := 0, res := bo y78, σ' := [], e := [] } }), (3, { orc := .val (.bool false) })]) (by kernel_rfl) (allc (C_retraceref04_Same y61.1 p0 y78 hy78) (allc (congrArg D.bool b79) all0)) (fun a w hs => ⟨false, h, hs⟩)
            · intro x77 h
              replace h : F_retracelaw04_FrameBursts_J3 x77 = some r := h
              rw [F_retracelaw04_FrameBursts_J3] at h
              obtain rfl := some_eq h
              exact At.ret fun a w hs => ret_ok hR (ρ := []) (gs := []) (by kernel_rfl) all0 (by kernel_rfl) rfl rfl a w hs _ (.inl rfl)
          · replace h := cond_f b72 h
            refine At.nar [0, 1, 10, 13, 14, 15] [0, 1] (st' := ⟨[(0, lv T_api_Frame.enc p0), (1, i64 p1), (10, .row 0 (y25.2).length), (13, .row 1 (y61.1).length), (14, i64 y61.2.1), (15, i64 y61.2.2)], [.row 3 1 (encL (eInt .i64) y25.2), .row 53 2 (encL T_api_Frame.enc y61.1)]⟩) (by kernel_rfl) ?_
            refine At.skip (norm ?_)
            refine At.seqJ (S := Bool) (fun s => ⟨[(8, bo s)], []⟩) (fun s => F_retracelaw04_FrameBursts_J4 s = some r) ?_ ?_
            · obtain ⟨g90, h⟩ := grd_some h
              obtain ⟨y91, hy91, h⟩ := bind_some h
              rcases tf y91 with b92 | b92
              · replace h := cond_t b92 h
                obtain ⟨y93, hy93, h⟩ := bind_some h
                rcases tf (y61.2.1 == y93) with b94 | b94
                · replace h := cond_t b94 h
                  rcases tf (y61.2.2 == 4) with b95 | b95
                  · replace h := cond_t b95 h
                    obtain ⟨y96, hy96, h⟩ := bind_some h
                    refine At.region_end [8] [] _ (st' := ⟨[(8, bo y96)], []⟩) (tips := [(3, { form := some ((lCut p0 0 p1).length, encL T_api_Frame.enc (lCut p0 0 p1)) }), (4, { settle := [1], pc := some { ρ := [], n0 := 0, res := bo y91, σ' := [], e := [] } }), (5, { orc := .val (.bool true) }), (10, { orc := .val (.int .i64 y93) }), (13, { orc := .val (.bool true) }), (17, { orc := .val (.bool true) }), (18, { pc := some { ρ := [], n0 := 0, res := bo y96, σ' := [], e := [] } })]) (by kernel_rfl) (allc ((cut_ok T_api_Frame.enc_len g90).1) (allc ((cut_ok T_api_Frame.enc_len g90).2) (allc g90 (allc (C_retraceref04_Same y61.1 (lCut p0 0 p1) y91 hy91) (allc (congrArg D.bool b92) (allc ((rAt_of (he_int .i64) (d := .int .i64 y93) hy93 rfl).1) (allc ((rAt_of (he_int .i64) (d := .int .i64 y93) hy93 rfl).2) (allc (congrArg D.bool b94) (allc (congrArg D.bool b95) (allc (C_retracelaw04_live y96 hy96) all0)))))))))) (fun a w hs => ⟨y96, h, hs⟩)
                  · replace h := cond_f b95 h
                    refine At.region_end [8] [] _ (st' := ⟨[(8, bo false)], []⟩) (tips := [(3, { form := some ((lCut p0 0 p1).length, encL T_api_Frame.enc (lCut p0 0 p1)) }), (4, { settle := [1], pc := some { ρ := [], n0 := 0, res := bo y91, σ' := [], e := [] } }), (5, { orc := .val (.bool true) }), (10, { orc := .val (.int .i64 y93) }), (13, { orc := .val (.bool true) }), (17, { orc := .val (.bool false) })]) (by kernel_rfl) (allc ((cut_ok T_api_Frame.enc_len g90).1) (allc ((cut_ok T_api_Frame.enc_len g90).2) (allc g90 (allc (C_retraceref04_Same y61.1 (lCut p0 0 p1) y91 hy91) (allc (congrArg D.bool b92) (allc ((rAt_of (he_int .i64) (d := .int .i64 y93) hy93 rfl).1) (allc ((rAt_of (he_int .i64) (d := .int .i64 y93) hy93 rfl).2) (allc (congrArg D.bool b94) (allc (congrArg D.bool b95) all0))))))))) (fun a w hs => ⟨false, h, hs⟩)
                · replace h := cond_f b94 h
                  refine At.region_end [8] [] _ (st' := ⟨[(8, bo false)], []⟩) (tips := [(3, { form := some ((lCut p0 0 p1).length, encL T_api_Frame.enc (lCut p0 0 p1)) }), (4, { settle := [1], pc := some { ρ := [], n0 := 0, res := bo y91, σ' := [], e := [] } }), (5, { orc := .val (.bool true) }), (10, { orc := .val (.int .i64 y93) }), (13, { orc := .val (.bool false) })]) (by kernel_rfl) (allc ((cut_ok T_api_Frame.enc_len g90).1) (allc ((cut_ok T_api_Frame.enc_len g90).2) (allc g90 (allc (C_retraceref04_Same y61.1 (lCut p0 0 p1) y91 hy91) (allc (congrArg D.bool b92) (allc ((rAt_of (he_int .i64) (d := .int .i64 y93) hy93 rfl).1) (allc ((rAt_of (he_int .i64) (d := .int .i64 y93) hy93 rfl).2) (allc (congrArg D.bool b94) all0)))))))) (fun a w hs => ⟨false, h, hs⟩)
              · replace h := cond_f b92 h
                refine At.region_end [8] [] _ (st' := ⟨[(8, bo false)], []⟩) (tips := [(3, { form := some ((lCut p0 0 p1).length, encL T_api_Frame.enc (lCut p0 0 p1)) }), (4, { settle := [1], pc := some { ρ := [], n0 := 0, res := bo y91, σ' := [], e := [] } }), (5, { orc := .val (.bool false) })]) (by kernel_rfl) (allc ((cut_ok T_api_Frame.enc_len g90).1) (allc ((cut_ok T_api_Frame.enc_len g90).2) (allc g90 (allc (C_retraceref04_Same y61.1 (lCut p0 0 p1) y91 hy91) (allc (congrArg D.bool b92) all0))))) (fun a w hs => ⟨false, h, hs⟩)
            · intro x89 h
              replace h : F_retracelaw04_FrameBursts_J4 x89 = some r := h
              rw [F_retracelaw04_FrameBursts_J4] at h
              obtain rfl := some_eq h
              exact At.ret fun a w hs => ret_ok hR (ρ := []) (gs := []) (by kernel_rfl) all0 (by kernel_rfl) rfl rfl a w hs _ (.inl rfl)
end Go.Ab
