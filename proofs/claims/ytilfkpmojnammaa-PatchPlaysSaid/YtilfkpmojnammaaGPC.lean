import Derived.Test.YtilfkpmojnammaaGP
namespace Go.Ab
open Go.Proofs
set_option linter.unusedVariables false
set_option maxRecDepth 100000 in
theorem C_patch_Asm_Label (o0 : T_patch_Asm) (r : Int × T_patch_Asm) (h : F_patch_Asm_Label o0 = some r) : FnOK Try.prog 20 [.ptr 0 0] [.blk 36 [.row 1 (o0.cells).length, .row 2 (o0.labels).length], .row 87 5 (encL T_patch_cell.enc o0.cells), .row 3 1 (encL (eInt .i64) o0.labels)] (i64 r.1) [.blk 36 [.row 1 (r.2.cells).length, .row 2 (r.2.labels).length], .row 87 5 (encL T_patch_cell.enc r.2.cells), .row 3 1 (encL (eInt .i64) r.2.labels)] [1, 2, 4, 5] := by
  rw [F_patch_Asm_Label] at h
  refine FnOK.intro Try.func20 rfl (by kernel_rfl) (by kernel_rfl) fun E gv R hR => ?_
  refine At.seq ?_
  refine At.region_end [0] [0, 1, 2, 3, 4, 5] _ (st' := ⟨[(0, .ptr 0 0)], [.blk 36 [.row 1 (o0.cells).length, .row 2 (o0.labels).length], .row 87 5 (encL T_patch_cell.enc o0.cells), .row 3 1 (encL (eInt .i64) o0.labels), .ghost (gv 0) (.ptr 0 0), .ghost (gv 1) (.row 1 0), .ghost (gv 2) (.row 2 0)]⟩) (tips := []) (by kernel_rfl) all0 (norm ?_)
  refine At.seq ?_
  refine At.seq ?_
  refine At.region_end [0, 4] [0, 1, 2, 3, 4, 5] _ (st' := ⟨[(0, .ptr 0 0), (4, bo false)], [.blk 36 [.row 1 (o0.cells).length, .row 2 (o0.labels).length], .row 87 5 (encL T_patch_cell.enc o0.cells), .row 3 1 (encL (eInt .i64) o0.labels), .ghost (gv 0) (.ptr 0 0), .ghost (gv 1) (.row 1 0), .ghost (gv 2) (.row 2 0)]⟩) (tips := []) (by kernel_rfl) all0 (norm ?_)
  refine At.cond false (by kernel_rfl) (fun hb => by cases hb) (fun _ => ?_)
  refine At.nar [0] [0, 1, 2, 3, 4, 5] (st' := ⟨[(0, .ptr 0 0)], [.blk 36 [.row 1 (o0.cells).length, .row 2 (o0.labels).length], .row 87 5 (encL T_patch_cell.enc o0.cells), .row 3 1 (encL (eInt .i64) o0.labels), .ghost (gv 0) (.ptr 0 0), .ghost (gv 1) (.row 1 0), .ghost (gv 2) (.row 2 0)]⟩) (by kernel_rfl) ?_
  refine At.skip (norm ?_)
  refine At.seq ?_
  obtain ⟨g2, h⟩ := grd_some h
  refine At.region_end [0] [0, 1, 2, 3, 4, 5] _ (st' := ⟨[(0, .ptr 0 0)], [.blk 36 [.row 1 (o0.cells).length, .row 2 ((o0.labels ++ [(-1)])).length], .row 87 5 (encL T_patch_cell.enc o0.cells), .row 3 1 (encL (eInt .i64) (o0.labels ++ [(-1)])), .ghost (gv 0) (.ptr 0 0), .ghost (gv 1) (.row 1 0), .ghost (gv 2) (.undef)]⟩) (tips := [(6, { form := some ((o0.labels ++ [(-1)]).length, encL (eInt .i64) (o0.labels ++ [(-1)])) })]) (by kernel_rfl) (allc (len_app o0.labels ([(-1)])) (allc (encL_app (eInt .i64) o0.labels ([(-1)])) (allc (app_ok (he_int .i64) (by decide) g2) (allc (encL_len (he_int .i64) ([(-1)])) all0)))) (norm ?_)
  refine At.seq ?_
  refine At.region_end [2] [0, 1, 2, 3, 4, 5] _ (st' := ⟨[(2, i64 (((o0.labels ++ [(-1)])).length : Int))], [.blk 36 [.row 1 (o0.cells).length, .row 2 ((o0.labels ++ [(-1)])).length], .row 87 5 (encL T_patch_cell.enc o0.cells), .row 3 1 (encL (eInt .i64) (o0.labels ++ [(-1)])), .ghost (gv 0) (.ptr 0 0), .ghost (gv 1) (.row 1 0), .ghost (gv 2) (.undef)]⟩) (tips := []) (by kernel_rfl) all0 (norm ?_)
  obtain rfl := some_eq h
  exact At.ret fun a w hs => ret_ok hR (ρ := [0, 1, 2]) (gs := [.ghost (gv 0) (.ptr 0 0), .ghost (gv 1) (.row 1 0), .ghost (gv 2) (.undef)]) (by kernel_rfl) all0 (by kernel_rfl) rfl rfl a w hs _ (.inl rfl)
set_option maxRecDepth 100000 in
theorem C_patch_Asm_Go (p1 : Int) (p2 : Int) (p3 : Int) (p4 : Int) (o0 : T_patch_Asm) (r : Int × T_patch_Asm) (h : F_patch_Asm_Go p1 p2 p3 p4 o0 = some r) : FnOK Try.prog 21 [.ptr 0 0, i64 p1, i64 p2, i64 p3, i64 p4] [.blk 36 [.row 1 (o0.cells).length, .row 2 (o0.labels).length], .row 87 5 (encL T_patch_cell.enc o0.cells), .row 3 1 (encL (eInt .i64) o0.labels)] (i64 r.1) [.blk 36 [.row 1 (r.2.cells).length, .row 2 (r.2.labels).length], .row 87 5 (encL T_patch_cell.enc r.2.cells), .row 3 1 (encL (eInt .i64) r.2.labels)] [1, 2, 3, 4] := by
  rw [F_patch_Asm_Go] at h
  refine FnOK.intro Try.func21 rfl (by kernel_rfl) (by kernel_rfl) fun E gv R hR => ?_
  refine At.seq ?_
  refine At.region_end [0, 1, 2, 3, 4] [0, 1, 2, 3, 4, 5] _ (st' := ⟨[(0, .ptr 0 0), (1, i64 p1), (2, i64 p2), (3, i64 p3), (4, i64 p4)], [.blk 36 [.row 1 (o0.cells).length, .row 2 (o0.labels).length], .row 87 5 (encL T_patch_cell.enc o0.cells), .row 3 1 (encL (eInt .i64) o0.labels), .ghost (gv 0) (.ptr 0 0), .ghost (gv 1) (.row 1 0), .ghost (gv 2) (.row 2 0)]⟩) (tips := []) (by kernel_rfl) all0 (norm ?_)
  refine At.seq ?_
  refine At.seq ?_
  refine At.region_end [0, 1, 2, 3, 4, 12] [0, 1, 2, 3, 4, 5] _ (st' := ⟨[(0, .ptr 0 0), (1, i64 p1), (2, i64 p2), (3, i64 p3), (4, i64 p4), (12, bo false)], [.blk 36 [.row 1 (o0.cells).length, .row 2 (o0.labels).length], .row 87 5 (encL T_patch_cell.enc o0.cells), .row 3 1 (encL (eInt .i64) o0.labels), .ghost (gv 0) (.ptr 0 0), .ghost (gv 1) (.row 1 0), .ghost (gv 2) (.row 2 0)]⟩) (tips := []) (by kernel_rfl) all0 (norm ?_)
  refine At.cond false (by kernel_rfl) (fun hb => by cases hb) (fun _ => ?_)
  refine At.nar [0, 1, 2, 3, 4] [0, 1, 2, 3, 4, 5] (st' := ⟨[(0, .ptr 0 0), (1, i64 p1), (2, i64 p2), (3, i64 p3), (4, i64 p4)], [.blk 36 [.row 1 (o0.cells).length, .row 2 (o0.labels).length], .row 87 5 (encL T_patch_cell.enc o0.cells), .row 3 1 (encL (eInt .i64) o0.labels), .ghost (gv 0) (.ptr 0 0), .ghost (gv 1) (.row 1 0), .ghost (gv 2) (.row 2 0)]⟩) (by kernel_rfl) ?_
  refine At.skip (norm ?_)
  refine At.seq ?_
  obtain ⟨g2, h⟩ := grd_some h
  refine At.region_end [0] [0, 1, 2, 3, 4, 5] _ (st' := ⟨[(0, .ptr 0 0)], [.blk 36 [.row 1 ((o0.cells ++ [(⟨(⟨p1, p2, p3⟩ : T_api_Ins), p4, true⟩ : T_patch_cell)])).length, .row 2 (o0.labels).length], .row 87 5 (encL T_patch_cell.enc (o0.cells ++ [(⟨(⟨p1, p2, p3⟩ : T_api_Ins), p4, true⟩ : T_patch_cell)])), .row 3 1 (encL (eInt .i64) o0.labels), .ghost (gv 0) (.ptr 0 0), .ghost (gv 1) (.undef), .ghost (gv 2) (.row 2 0)]⟩) (tips := [(12, { form := some ((o0.cells ++ [(⟨(⟨p1, p2, p3⟩ : T_api_Ins), p4, true⟩ : T_patch_cell)]).length, encL T_patch_cell.enc (o0.cells ++ [(⟨(⟨p1, p2, p3⟩ : T_api_Ins), p4, true⟩ : T_patch_cell)])) })]) (by kernel_rfl) (allc (len_app o0.cells ([(⟨(⟨p1, p2, p3⟩ : T_api_Ins), p4, true⟩ : T_patch_cell)])) (allc (encL_app T_patch_cell.enc o0.cells ([(⟨(⟨p1, p2, p3⟩ : T_api_Ins), p4, true⟩ : T_patch_cell)])) (allc (app_ok T_patch_cell.enc_len (by decide) g2) (allc (encL_len T_patch_cell.enc_len ([(⟨(⟨p1, p2, p3⟩ : T_api_Ins), p4, true⟩ : T_patch_cell)])) all0)))) (norm ?_)
  refine At.seq ?_
  refine At.region_end [10] [0, 1, 2, 3, 4, 5] _ (st' := ⟨[(10, i64 (w64 ((((o0.cells ++ [(⟨(⟨p1, p2, p3⟩ : T_api_Ins), p4, true⟩ : T_patch_cell)])).length : Int) - 1)))], [.blk 36 [.row 1 ((o0.cells ++ [(⟨(⟨p1, p2, p3⟩ : T_api_Ins), p4, true⟩ : T_patch_cell)])).length, .row 2 (o0.labels).length], .row 87 5 (encL T_patch_cell.enc (o0.cells ++ [(⟨(⟨p1, p2, p3⟩ : T_api_Ins), p4, true⟩ : T_patch_cell)])), .row 3 1 (encL (eInt .i64) o0.labels), .ghost (gv 0) (.ptr 0 0), .ghost (gv 1) (.undef), .ghost (gv 2) (.row 2 0)]⟩) (tips := []) (by kernel_rfl) all0 (norm ?_)
  obtain rfl := some_eq h
  exact At.ret fun a w hs => ret_ok hR (ρ := [0, 1, 2]) (gs := [.ghost (gv 0) (.ptr 0 0), .ghost (gv 1) (.undef), .ghost (gv 2) (.row 2 0)]) (by kernel_rfl) all0 (by kernel_rfl) rfl rfl a w hs _ (.inl rfl)
set_option maxRecDepth 100000 in
theorem C_patch_Asm_Put (o0 : T_patch_Asm) (o3 : (List T_api_Ins)) (r : Int × T_patch_Asm) (h : F_patch_Asm_Put o0 o3 = some r) : FnOK Try.prog 19 [.ptr 0 0, .row 3 (o3).length] [.blk 36 [.row 1 (o0.cells).length, .row 2 (o0.labels).length], .row 87 5 (encL T_patch_cell.enc o0.cells), .row 3 1 (encL (eInt .i64) o0.labels), .row 38 3 (encL T_api_Ins.enc o3)] (i64 r.1) [.blk 36 [.row 1 (r.2.cells).length, .row 2 (r.2.labels).length], .row 87 5 (encL T_patch_cell.enc r.2.cells), .row 3 1 (encL (eInt .i64) r.2.labels), .row 38 3 (encL T_api_Ins.enc o3)] [1, 2, 3, 4, 6] := by
  rw [F_patch_Asm_Put] at h
  refine FnOK.intro Try.func19 rfl (by kernel_rfl) (by kernel_rfl) fun E gv R hR => ?_
  refine At.seq ?_
  refine At.region_end [0, 1] [0, 1, 2, 3, 4, 5, 6, 7] _ (st' := ⟨[(0, .ptr 0 0), (1, .row 3 (o3).length)], [.blk 36 [.row 1 (o0.cells).length, .row 2 (o0.labels).length], .row 87 5 (encL T_patch_cell.enc o0.cells), .row 3 1 (encL (eInt .i64) o0.labels), .row 38 3 (encL T_api_Ins.enc o3), .ghost (gv 0) (.ptr 0 0), .ghost (gv 1) (.row 1 0), .ghost (gv 2) (.row 2 0), .ghost (gv 3) (.row 3 0)]⟩) (tips := []) (by kernel_rfl) all0 (norm ?_)
  refine At.seq ?_
  refine At.seq ?_
  refine At.region_end [0, 1, 9] [0, 1, 2, 3, 4, 5, 6, 7] _ (st' := ⟨[(0, .ptr 0 0), (1, .row 3 (o3).length), (9, bo false)], [.blk 36 [.row 1 (o0.cells).length, .row 2 (o0.labels).length], .row 87 5 (encL T_patch_cell.enc o0.cells), .row 3 1 (encL (eInt .i64) o0.labels), .row 38 3 (encL T_api_Ins.enc o3), .ghost (gv 0) (.ptr 0 0), .ghost (gv 1) (.row 1 0), .ghost (gv 2) (.row 2 0), .ghost (gv 3) (.row 3 0)]⟩) (tips := []) (by kernel_rfl) all0 (norm ?_)
  refine At.cond false (by kernel_rfl) (fun hb => by cases hb) (fun _ => ?_)
  refine At.nar [0, 1] [0, 1, 2, 3, 4, 5, 6, 7] (st' := ⟨[(0, .ptr 0 0), (1, .row 3 (o3).length)], [.blk 36 [.row 1 (o0.cells).length, .row 2 (o0.labels).length], .row 87 5 (encL T_patch_cell.enc o0.cells), .row 3 1 (encL (eInt .i64) o0.labels), .row 38 3 (encL T_api_Ins.enc o3), .ghost (gv 0) (.ptr 0 0), .ghost (gv 1) (.row 1 0), .ghost (gv 2) (.row 2 0), .ghost (gv 3) (.row 3 0)]⟩) (by kernel_rfl) ?_
  refine At.skip (norm ?_)
  refine At.seq ?_
  refine At.region_end [0, 1, 5] [0, 1, 2, 3, 4, 5, 6, 7] _ (st' := ⟨[(0, .ptr 0 0), (1, .row 3 (o3).length), (5, i64 ((o0.cells).length : Int))], [.blk 36 [.row 1 (o0.cells).length, .row 2 (o0.labels).length], .row 87 5 (encL T_patch_cell.enc o0.cells), .row 3 1 (encL (eInt .i64) o0.labels), .row 38 3 (encL T_api_Ins.enc o3), .ghost (gv 0) (.ptr 0 0), .ghost (gv 1) (.row 1 0), .ghost (gv 2) (.row 2 0), .ghost (gv 3) (.row 3 0)]⟩) (tips := []) (by kernel_rfl) all0 (norm ?_)
  refine At.seq ?_
  refine At.seq ?_
  refine At.region_end [0, 5, 15, 16, 17] [0, 1, 2, 3, 4, 5, 6, 7] _ (st' := ⟨[(0, .ptr 0 0), (5, i64 ((o0.cells).length : Int)), (15, .row 3 (o3).length), (16, i64 ((o3).length : Int)), (17, i64 0)], [.blk 36 [.row 1 (o0.cells).length, .row 2 (o0.labels).length], .row 87 5 (encL T_patch_cell.enc o0.cells), .row 3 1 (encL (eInt .i64) o0.labels), .row 38 3 (encL T_api_Ins.enc o3), .ghost (gv 0) (.ptr 0 0), .ghost (gv 1) (.row 1 0), .ghost (gv 2) (.row 2 0), .ghost (gv 3) (.row 3 0)]⟩) (tips := []) (by kernel_rfl) all0 (norm ?_)
  refine At.block ?_
  refine At.edNar [.hideG 5] [0, 5, 15, 16, 17] [0, 1, 2, 3, 4, 5, 6, 7] (st' := ⟨[(0, .ptr 0 0), (5, i64 ((o0.cells).length : Int)), (15, .row 3 (o3).length), (16, i64 ((o3).length : Int)), (17, i64 0)], [.blk 36 [.row 1 (o0.cells).length, .row 2 (o0.labels).length], .row 87 5 (encL T_patch_cell.enc o0.cells), .row 3 1 (encL (eInt .i64) o0.labels), .row 38 3 (encL T_api_Ins.enc o3), .ghost (gv 0) (.ptr 0 0), .ghost (gv 1) (.undef), .ghost (gv 2) (.row 2 0), .ghost (gv 3) (.row 3 0)]⟩) (by kernel_rfl) ?_
  refine At.loop (fun s : (Int × (List T_patch_cell)) => F_patch_Asm_Put_L1 o0 o3 s.1 s.2) (fun s : (Int × (List T_patch_cell)) => ⟨[(0, .ptr 0 0), (5, i64 ((o0.cells).length : Int)), (15, .row 3 (o3).length), (16, i64 ((o3).length : Int)), (17, i64 s.1)], [.blk 36 [.row 1 (s.2).length, .row 2 (o0.labels).length], .row 87 5 (encL T_patch_cell.enc s.2), .row 3 1 (encL (eInt .i64) o0.labels), .row 38 3 (encL T_api_Ins.enc o3), .ghost (gv 0) (.ptr 0 0), .ghost (gv 1) (.undef), .ghost (gv 2) (.row 2 0), .ghost (gv 3) (.row 3 0)]⟩) r (0, o0.cells) h ?_
  rintro ⟨x15, x16⟩ oo17 h f18
  replace h : F_patch_Asm_Put_L1 o0 o3 x15 x16 = some oo17 := h
  rw [F_patch_Asm_Put_L1] at h
  refine At.seq ?_
  refine At.region_end [0, 5, 15, 16, 17, 18] [0, 1, 2, 3, 4, 5, 6, 7] _ (st' := ⟨[(0, .ptr 0 0), (5, i64 ((o0.cells).length : Int)), (15, .row 3 (o3).length), (16, i64 ((o3).length : Int)), (17, i64 x15), (18, bo (decide (x15 < ((o3).length : Int))))], [.blk 36 [.row 1 (x16).length, .row 2 (o0.labels).length], .row 87 5 (encL T_patch_cell.enc x16), .row 3 1 (encL (eInt .i64) o0.labels), .row 38 3 (encL T_api_Ins.enc o3), .ghost (gv 0) (.ptr 0 0), .ghost (gv 1) (.undef), .ghost (gv 2) (.row 2 0), .ghost (gv 3) (.row 3 0)]⟩) (tips := []) (by kernel_rfl) all0 (norm ?_)
  refine At.seq ?_
  refine At.cond (decide (x15 < ((o3).length : Int))) (by kernel_rfl) (fun b20 => ?_) (fun b20 => ?_)
  · replace h := cond_t b20 h
    refine At.nar [0, 5, 15, 16, 17] [0, 1, 2, 3, 4, 5, 6, 7] (st' := ⟨[(0, .ptr 0 0), (5, i64 ((o0.cells).length : Int)), (15, .row 3 (o3).length), (16, i64 ((o3).length : Int)), (17, i64 x15)], [.blk 36 [.row 1 (x16).length, .row 2 (o0.labels).length], .row 87 5 (encL T_patch_cell.enc x16), .row 3 1 (encL (eInt .i64) o0.labels), .row 38 3 (encL T_api_Ins.enc o3), .ghost (gv 0) (.ptr 0 0), .ghost (gv 1) (.undef), .ghost (gv 2) (.row 2 0), .ghost (gv 3) (.row 3 0)]⟩) (by kernel_rfl) ?_
    refine At.skip (norm ?_)
    refine At.seq ?_
    refine At.block ?_
    refine At.seq ?_
    obtain ⟨y25, hy25, h⟩ := bind_some h
    refine At.region_end [0, 5, 7, 15, 16, 17] [0, 1, 2, 3, 4, 5, 6, 7, 8] _ (st' := ⟨[(0, .ptr 0 0), (5, i64 ((o0.cells).length : Int)), (7, .ptr 8 0), (15, .row 3 (o3).length), (16, i64 ((o3).length : Int)), (17, i64 x15)], [.blk 36 [.row 1 (x16).length, .row 2 (o0.labels).length], .row 87 5 (encL T_patch_cell.enc x16), .row 3 1 (encL (eInt .i64) o0.labels), .row 38 3 (encL T_api_Ins.enc o3), .ghost (gv 0) (.ptr 0 0), .ghost (gv 1) (.undef), .ghost (gv 2) (.row 2 0), .ghost (gv 3) (.row 3 0), .blk 38 (T_api_Ins.pvs y25)]⟩) (tips := [(1, { orc := .cells [.int .i64 y25.Op, .int .i64 y25.A, .int .i64 y25.B] })]) (by kernel_rfl) (allc (rEl hy25) (allc (rElC T_api_Ins.enc_len hy25 0 3 (by decide) (by rfl)) all0)) (norm ?_)
    obtain ⟨g26, h⟩ := grd_some h
    refine At.draw_end mixedOrd 1 [0, 5, 15, 16, 17] [0, 1, 2, 3, 4, 5, 6, 7] _ (st' := ⟨[(0, .ptr 0 0), (5, i64 ((o0.cells).length : Int)), (15, .row 3 (o3).length), (16, i64 ((o3).length : Int)), (17, i64 x15)], [.blk 36 [.row 1 ((x16 ++ [(⟨y25, 0, false⟩ : T_patch_cell)])).length, .row 2 (o0.labels).length], .row 87 5 (encL T_patch_cell.enc (x16 ++ [(⟨y25, 0, false⟩ : T_patch_cell)])), .row 3 1 (encL (eInt .i64) o0.labels), .row 38 3 (encL T_api_Ins.enc o3), .ghost (gv 0) (.ptr 0 0), .ghost (gv 1) (.undef), .ghost (gv 2) (.row 2 0), .ghost (gv 3) (.row 3 0)]⟩) (tips := [(0, { r := 9 }), (1, { r := 9 }), (2, { r := 9 }), (3, { r := 9 }), (4, { T := [0], r := 9 }), (5, { T := [8], r := 9 }), (7, { r := 9 }), (8, { tip := { form := some ((x16 ++ [(⟨y25, 0, false⟩ : T_patch_cell)]).length, encL T_patch_cell.enc (x16 ++ [(⟨y25, 0, false⟩ : T_patch_cell)])) }, T := [1, 9], r := 10 }), (9, { r := 10 }), (10, { r := 10 }), (11, { T := [0], r := 10 })]) (by kernel_rfl) (allc (len_app x16 ([(⟨y25, 0, false⟩ : T_patch_cell)])) (allc (encL_app T_patch_cell.enc x16 ([(⟨y25, 0, false⟩ : T_patch_cell)])) (allc (app_ok T_patch_cell.enc_len (by decide) g26) (allc (encL_len T_patch_cell.enc_len ([(⟨y25, 0, false⟩ : T_patch_cell)])) all0)))) (norm ?_)
    refine At.region_end [0, 5, 15, 16, 17] [0, 1, 2, 3, 4, 5, 6, 7] _ (st' := ⟨[(0, .ptr 0 0), (5, i64 ((o0.cells).length : Int)), (15, .row 3 (o3).length), (16, i64 ((o3).length : Int)), (17, i64 (w64 (x15 + 1)))], [.blk 36 [.row 1 ((x16 ++ [(⟨y25, 0, false⟩ : T_patch_cell)])).length, .row 2 (o0.labels).length], .row 87 5 (encL T_patch_cell.enc (x16 ++ [(⟨y25, 0, false⟩ : T_patch_cell)])), .row 3 1 (encL (eInt .i64) o0.labels), .row 38 3 (encL T_api_Ins.enc o3), .ghost (gv 0) (.ptr 0 0), .ghost (gv 1) (.undef), .ghost (gv 2) (.row 2 0), .ghost (gv 3) (.row 3 0)]⟩) (tips := []) (by kernel_rfl) all0 (fun a w hs => ⟨_, (some_eq h).symm, hs⟩)
  · replace h := cond_f b20 h
    refine At.nar [5] [0, 1, 2, 3, 4, 5, 6, 7] (st' := ⟨[(5, i64 ((o0.cells).length : Int))], [.blk 36 [.row 1 (x16).length, .row 2 (o0.labels).length], .row 87 5 (encL T_patch_cell.enc x16), .row 3 1 (encL (eInt .i64) o0.labels), .row 38 3 (encL T_api_Ins.enc o3), .ghost (gv 0) (.ptr 0 0), .ghost (gv 1) (.undef), .ghost (gv 2) (.row 2 0), .ghost (gv 3) (.row 3 0)]⟩) (by kernel_rfl) ?_
    obtain ⟨r27, h, e28⟩ := map_inr h
    rw [f18 _ e28] at h
    refine At.exit (norm ?_)
    refine At.seq ?_
    refine At.region_end [4] [0, 1, 2, 3, 4, 5, 6, 7] _ (st' := ⟨[(4, i64 ((o0.cells).length : Int))], [.blk 36 [.row 1 (x16).length, .row 2 (o0.labels).length], .row 87 5 (encL T_patch_cell.enc x16), .row 3 1 (encL (eInt .i64) o0.labels), .row 38 3 (encL T_api_Ins.enc o3), .ghost (gv 0) (.ptr 0 0), .ghost (gv 1) (.undef), .ghost (gv 2) (.row 2 0), .ghost (gv 3) (.row 3 0)]⟩) (tips := []) (by kernel_rfl) all0 (norm ?_)
    obtain rfl := some_eq h
    exact At.ret fun a w hs => ret_ok hR (ρ := [0, 1, 2, 3]) (gs := [.ghost (gv 0) (.ptr 0 0), .ghost (gv 1) (.undef), .ghost (gv 2) (.row 2 0), .ghost (gv 3) (.row 3 0)]) (by kernel_rfl) all0 (by kernel_rfl) rfl rfl a w hs _ (.inl rfl)
set_option maxRecDepth 100000 in
theorem C_patch_Asm_has (p1 : Int) (o0 : T_patch_Asm) (r : Bool) (h : F_patch_Asm_has p1 o0 = some r) : FnOK Try.prog 45 [.ptr 0 0, i64 p1] [.blk 36 [.row 1 (o0.cells).length, .row 2 (o0.labels).length], .row 87 5 (encL T_patch_cell.enc o0.cells), .row 3 1 (encL (eInt .i64) o0.labels)] (bo r) [.blk 36 [.row 1 (o0.cells).length, .row 2 (o0.labels).length], .row 87 5 (encL T_patch_cell.enc o0.cells), .row 3 1 (encL (eInt .i64) o0.labels)] [1, 2, 4] := by
  rw [F_patch_Asm_has] at h
  refine FnOK.intro Try.func45 rfl (by kernel_rfl) (by kernel_rfl) fun E gv R hR => ?_
  refine At.seq ?_
  refine At.region_end [0, 1] [0, 1, 2, 3, 4, 5] _ (st' := ⟨[(0, .ptr 0 0), (1, i64 p1)], [.blk 36 [.row 1 (o0.cells).length, .row 2 (o0.labels).length], .row 87 5 (encL T_patch_cell.enc o0.cells), .row 3 1 (encL (eInt .i64) o0.labels), .ghost (gv 0) (.ptr 0 0), .ghost (gv 1) (.row 1 0), .ghost (gv 2) (.row 2 0)]⟩) (tips := []) (by kernel_rfl) all0 (norm ?_)
  refine At.seqJ (S := Bool) (fun s => ⟨[(4, bo s)], [.blk 36 [.row 1 (o0.cells).length, .row 2 (o0.labels).length], .row 87 5 (encL T_patch_cell.enc o0.cells), .row 3 1 (encL (eInt .i64) o0.labels), .ghost (gv 0) (.ptr 0 0), .ghost (gv 1) (.row 1 0), .ghost (gv 2) (.row 2 0)]⟩) (fun s => F_patch_Asm_has_J1 s = some r) ?_ ?_
  · rcases tf (decide (1 ≤ p1)) with b3 | b3
    · replace h := cond_t b3 h
      refine At.region_end [4] [0, 1, 2, 3, 4, 5] _ (st' := ⟨[(4, bo (decide (p1 ≤ ((o0.labels).length : Int))))], [.blk 36 [.row 1 (o0.cells).length, .row 2 (o0.labels).length], .row 87 5 (encL T_patch_cell.enc o0.cells), .row 3 1 (encL (eInt .i64) o0.labels), .ghost (gv 0) (.ptr 0 0), .ghost (gv 1) (.row 1 0), .ghost (gv 2) (.row 2 0)]⟩) (tips := [(6, { orc := .val (.bool true) })]) (by kernel_rfl) (allc (congrArg D.bool b3) all0) (fun a w hs => ⟨(decide (p1 ≤ ((o0.labels).length : Int))), h, hs⟩)
    · replace h := cond_f b3 h
      refine At.region_end [4] [0, 1, 2, 3, 4, 5] _ (st' := ⟨[(4, bo false)], [.blk 36 [.row 1 (o0.cells).length, .row 2 (o0.labels).length], .row 87 5 (encL T_patch_cell.enc o0.cells), .row 3 1 (encL (eInt .i64) o0.labels), .ghost (gv 0) (.ptr 0 0), .ghost (gv 1) (.row 1 0), .ghost (gv 2) (.row 2 0)]⟩) (tips := [(6, { orc := .val (.bool false) })]) (by kernel_rfl) (allc (congrArg D.bool b3) all0) (fun a w hs => ⟨false, h, hs⟩)
  · intro x2 h
    replace h : F_patch_Asm_has_J1 x2 = some r := h
    rw [F_patch_Asm_has_J1] at h
    obtain rfl := some_eq h
    exact At.ret fun a w hs => ret_ok hR (ρ := [0, 1, 2]) (gs := [.ghost (gv 0) (.ptr 0 0), .ghost (gv 1) (.row 1 0), .ghost (gv 2) (.row 2 0)]) (by kernel_rfl) all0 (by kernel_rfl) rfl rfl a w hs _ (.inl rfl)
set_option maxRecDepth 100000 in
theorem C_patch_Asm_Bind (p1 : Int) (o0 : T_patch_Asm) (r : Int × T_patch_Asm) (h : F_patch_Asm_Bind p1 o0 = some r) : FnOK Try.prog 22 [.ptr 0 0, i64 p1] [.blk 36 [.row 1 (o0.cells).length, .row 2 (o0.labels).length], .row 87 5 (encL T_patch_cell.enc o0.cells), .row 3 1 (encL (eInt .i64) o0.labels)] (i64 r.1) [.blk 36 [.row 1 (r.2.cells).length, .row 2 (r.2.labels).length], .row 87 5 (encL T_patch_cell.enc r.2.cells), .row 3 1 (encL (eInt .i64) r.2.labels)] [1, 2, 4] := by
  rw [F_patch_Asm_Bind] at h
  refine FnOK.intro Try.func22 rfl (by kernel_rfl) (by kernel_rfl) fun E gv R hR => ?_
  refine At.seq ?_
  refine At.region_end [0, 1] [0, 1, 2, 3, 4, 5] _ (st' := ⟨[(0, .ptr 0 0), (1, i64 p1)], [.blk 36 [.row 1 (o0.cells).length, .row 2 (o0.labels).length], .row 87 5 (encL T_patch_cell.enc o0.cells), .row 3 1 (encL (eInt .i64) o0.labels), .ghost (gv 0) (.ptr 0 0), .ghost (gv 1) (.row 1 0), .ghost (gv 2) (.row 2 0)]⟩) (tips := []) (by kernel_rfl) all0 (norm ?_)
  refine At.seq ?_
  refine At.seq ?_
  obtain ⟨y5, hy5, h⟩ := bind_some h
  refine At.region_end [0, 1, 8] [0, 1, 2, 3, 4, 5] _ (st' := ⟨[(0, .ptr 0 0), (1, i64 p1), (8, bo (!y5))], [.blk 36 [.row 1 (o0.cells).length, .row 2 (o0.labels).length], .row 87 5 (encL T_patch_cell.enc o0.cells), .row 3 1 (encL (eInt .i64) o0.labels), .ghost (gv 0) (.ptr 0 0), .ghost (gv 1) (.row 1 0), .ghost (gv 2) (.row 2 0)]⟩) (tips := [(2, { pc := some { ρ := [0, 1, 2], n0 := 3, res := bo y5, σ' := [.blk 36 [.row 1 (o0.cells).length, .row 2 (o0.labels).length], .row 87 5 (encL T_patch_cell.enc o0.cells), .row 3 1 (encL (eInt .i64) o0.labels)], e := [1, 2, 4] } })]) (by kernel_rfl) (allc (C_patch_Asm_has p1 o0 y5 hy5) all0) (norm ?_)
  refine At.cond (!y5) (by kernel_rfl) (fun b6 => ?_) (fun b6 => ?_)
  · replace h := cond_t b6 h
    refine At.seq ?_
    refine At.region_end [4] [0, 1, 2, 3, 4, 5] _ (st' := ⟨[(4, i64 1)], [.blk 36 [.row 1 (o0.cells).length, .row 2 (o0.labels).length], .row 87 5 (encL T_patch_cell.enc o0.cells), .row 3 1 (encL (eInt .i64) o0.labels), .ghost (gv 0) (.ptr 0 0), .ghost (gv 1) (.row 1 0), .ghost (gv 2) (.row 2 0)]⟩) (tips := []) (by kernel_rfl) all0 (norm ?_)
    obtain rfl := some_eq h
    exact At.ret fun a w hs => ret_ok hR (ρ := [0, 1, 2]) (gs := [.ghost (gv 0) (.ptr 0 0), .ghost (gv 1) (.row 1 0), .ghost (gv 2) (.row 2 0)]) (by kernel_rfl) all0 (by kernel_rfl) rfl rfl a w hs _ (.inl rfl)
  · replace h := cond_f b6 h
    refine At.nar [0, 1] [0, 1, 2, 3, 4, 5] (st' := ⟨[(0, .ptr 0 0), (1, i64 p1)], [.blk 36 [.row 1 (o0.cells).length, .row 2 (o0.labels).length], .row 87 5 (encL T_patch_cell.enc o0.cells), .row 3 1 (encL (eInt .i64) o0.labels), .ghost (gv 0) (.ptr 0 0), .ghost (gv 1) (.row 1 0), .ghost (gv 2) (.row 2 0)]⟩) (by kernel_rfl) ?_
    refine At.skip (norm ?_)
    refine At.seq ?_
    refine At.seq ?_
    obtain ⟨y11, hy11, h⟩ := bind_some h
    refine At.region_end [0, 1, 17] [0, 1, 2, 3, 4, 5] _ (st' := ⟨[(0, .ptr 0 0), (1, i64 p1), (17, bo (decide (0 ≤ y11)))], [.blk 36 [.row 1 (o0.cells).length, .row 2 (o0.labels).length], .row 87 5 (encL T_patch_cell.enc o0.cells), .row 3 1 (encL (eInt .i64) o0.labels), .ghost (gv 0) (.ptr 0 0), .ghost (gv 1) (.row 1 0), .ghost (gv 2) (.row 2 0)]⟩) (tips := [(7, { orc := .val (.int .i64 y11) })]) (by kernel_rfl) (allc ((rAt_of (he_int .i64) (d := .int .i64 y11) hy11 rfl).1) (allc ((rAt_of (he_int .i64) (d := .int .i64 y11) hy11 rfl).2) all0)) (norm ?_)
    refine At.cond (decide (0 ≤ y11)) (by kernel_rfl) (fun b12 => ?_) (fun b12 => ?_)
    · replace h := cond_t b12 h
      refine At.seq ?_
      refine At.region_end [4] [0, 1, 2, 3, 4, 5] _ (st' := ⟨[(4, i64 8)], [.blk 36 [.row 1 (o0.cells).length, .row 2 (o0.labels).length], .row 87 5 (encL T_patch_cell.enc o0.cells), .row 3 1 (encL (eInt .i64) o0.labels), .ghost (gv 0) (.ptr 0 0), .ghost (gv 1) (.row 1 0), .ghost (gv 2) (.row 2 0)]⟩) (tips := []) (by kernel_rfl) all0 (norm ?_)
      obtain rfl := some_eq h
      exact At.ret fun a w hs => ret_ok hR (ρ := [0, 1, 2]) (gs := [.ghost (gv 0) (.ptr 0 0), .ghost (gv 1) (.row 1 0), .ghost (gv 2) (.row 2 0)]) (by kernel_rfl) all0 (by kernel_rfl) rfl rfl a w hs _ (.inl rfl)
    · replace h := cond_f b12 h
      refine At.nar [0, 1] [0, 1, 2, 3, 4, 5] (st' := ⟨[(0, .ptr 0 0), (1, i64 p1)], [.blk 36 [.row 1 (o0.cells).length, .row 2 (o0.labels).length], .row 87 5 (encL T_patch_cell.enc o0.cells), .row 3 1 (encL (eInt .i64) o0.labels), .ghost (gv 0) (.ptr 0 0), .ghost (gv 1) (.row 1 0), .ghost (gv 2) (.row 2 0)]⟩) (by kernel_rfl) ?_
      refine At.skip (norm ?_)
      refine At.seq ?_
      obtain ⟨g14, h⟩ := grd_some h
      refine At.draw_end mixedOrd 0 [] [0, 1, 2, 3, 4, 5] _ (st' := ⟨[], [.blk 36 [.row 1 (o0.cells).length, .row 2 (o0.labels).length], .row 87 5 (encL T_patch_cell.enc o0.cells), .row 3 1 (encL (eInt .i64) (List.set o0.labels (Int.toNat (w64 (p1 - 1))) ((o0.cells).length : Int))), .ghost (gv 0) (.ptr 0 0), .ghost (gv 1) (.row 1 0), .ghost (gv 2) (.row 2 0)]⟩) (tips := [(0, { r := 6 }), (1, { r := 6 }), (2, { r := 6 }), (3, { T := [0], r := 6 }), (6, { r := 6 }), (7, { r := 6 }), (8, { r := 6 }), (9, { T := [0], r := 6 }), (10, { r := 6 }), (11, { r := 6 }), (12, { tip := { form := some (0, encL (eInt .i64) (List.set o0.labels (Int.toNat (w64 (p1 - 1))) ((o0.cells).length : Int))), obj := 2 }, T := [2], r := 6 })]) (by kernel_rfl) (allc (g14 : Within _ _) (allc ((rSet_ok (he_int .i64) ((o0.cells).length : Int) g14).1) (allc ((rSet_ok (he_int .i64) ((o0.cells).length : Int) g14).2) all0))) (relen (st2 := ⟨[], [.blk 36 [.row 1 (o0.cells).length, .row 2 ((List.set o0.labels (Int.toNat (w64 (p1 - 1))) ((o0.cells).length : Int))).length], .row 87 5 (encL T_patch_cell.enc o0.cells), .row 3 1 (encL (eInt .i64) (List.set o0.labels (Int.toNat (w64 (p1 - 1))) ((o0.cells).length : Int))), .ghost (gv 0) (.ptr 0 0), .ghost (gv 1) (.row 1 0), .ghost (gv 2) (.row 2 0)]⟩) (by simp only [List.length_set]) (norm ?_))
      refine At.seq ?_
      refine At.region_end [4] [0, 1, 2, 3, 4, 5] _ (st' := ⟨[(4, i64 0)], [.blk 36 [.row 1 (o0.cells).length, .row 2 ((List.set o0.labels (Int.toNat (w64 (p1 - 1))) ((o0.cells).length : Int))).length], .row 87 5 (encL T_patch_cell.enc o0.cells), .row 3 1 (encL (eInt .i64) (List.set o0.labels (Int.toNat (w64 (p1 - 1))) ((o0.cells).length : Int))), .ghost (gv 0) (.ptr 0 0), .ghost (gv 1) (.row 1 0), .ghost (gv 2) (.row 2 0)]⟩) (tips := []) (by kernel_rfl) all0 (norm ?_)
      obtain rfl := some_eq h
      exact At.ret fun a w hs => ret_ok hR (ρ := [0, 1, 2]) (gs := [.ghost (gv 0) (.ptr 0 0), .ghost (gv 1) (.row 1 0), .ghost (gv 2) (.row 2 0)]) (by kernel_rfl) all0 (by kernel_rfl) rfl rfl a w hs _ (.inl rfl)
set_option maxRecDepth 100000 in
theorem C_patch_Target (p0 : T_api_Ins) (r : Int × Bool) (h : F_patch_Target p0 = some r) : FnOK Try.prog 28 [.agg (T_api_Ins.pvs p0)] [] (.tup [i64 r.1, bo r.2]) [] [] := by
  rw [F_patch_Target] at h
  refine FnOK.intro Try.func28 rfl (by kernel_rfl) (by kernel_rfl) fun E gv R hR => ?_
  refine At.seq ?_
  refine At.region_end [1] [0] _ (st' := ⟨[(1, .ptr 0 0)], [.blk 38 (T_api_Ins.pvs p0)]⟩) (tips := []) (by kernel_rfl) all0 (norm ?_)
  refine At.seq ?_
  refine At.seq ?_
  refine At.region_end [1, 5] [0] _ (st' := ⟨[(1, .ptr 0 0), (5, i64 p0.Op)], [.blk 38 (T_api_Ins.pvs p0)]⟩) (tips := []) (by kernel_rfl) all0 (norm ?_)
  refine At.block ?_
  refine At.seqJ (S := Bool) (fun s => ⟨[(1, .ptr 0 0), (5, i64 p0.Op), (6, bo s)], [.blk 38 (T_api_Ins.pvs p0)]⟩) (fun s => F_patch_Target_J1 p0 s = some r) ?_ ?_
  · refine At.seq ?_
    refine At.region_end [1, 5, 6] [0] _ (st' := ⟨[(1, .ptr 0 0), (5, i64 p0.Op), (6, bo (p0.Op == 6))], [.blk 38 (T_api_Ins.pvs p0)]⟩) (tips := []) (by kernel_rfl) all0 (norm ?_)
    refine At.cond (p0.Op == 6) (by kernel_rfl) (fun b22 => ?_) (fun b22 => ?_)
    · replace h := cond_t b22 h
      refine At.skip (fun a w hs => ⟨(p0.Op == 6), h, hs⟩)
    · replace h := cond_f b22 h
      refine At.seq ?_
      refine At.region_end [1, 5, 6] [0] _ (st' := ⟨[(1, .ptr 0 0), (5, i64 p0.Op), (6, bo (p0.Op == 7))], [.blk 38 (T_api_Ins.pvs p0)]⟩) (tips := []) (by kernel_rfl) all0 (norm ?_)
      refine At.cond (p0.Op == 7) (by kernel_rfl) (fun b23 => ?_) (fun b23 => ?_)
      · replace h := cond_t b23 h
        refine At.skip (fun a w hs => ⟨(p0.Op == 7), h, hs⟩)
      · replace h := cond_f b23 h
        refine At.seq ?_
        refine At.region_end [1, 5, 6] [0] _ (st' := ⟨[(1, .ptr 0 0), (5, i64 p0.Op), (6, bo (p0.Op == 8))], [.blk 38 (T_api_Ins.pvs p0)]⟩) (tips := []) (by kernel_rfl) all0 (norm ?_)
        refine At.cond (p0.Op == 8) (by kernel_rfl) (fun b24 => ?_) (fun b24 => ?_)
        · replace h := cond_t b24 h
          refine At.skip (fun a w hs => ⟨(p0.Op == 8), h, hs⟩)
        · replace h := cond_f b24 h
          refine At.seq ?_
          refine At.region_end [1, 5, 6] [0] _ (st' := ⟨[(1, .ptr 0 0), (5, i64 p0.Op), (6, bo (p0.Op == 20))], [.blk 38 (T_api_Ins.pvs p0)]⟩) (tips := []) (by kernel_rfl) all0 (norm ?_)
          refine At.cond (p0.Op == 20) (by kernel_rfl) (fun b25 => ?_) (fun b25 => ?_)
          · replace h := cond_t b25 h
            refine At.skip (fun a w hs => ⟨(p0.Op == 20), h, hs⟩)
          · replace h := cond_f b25 h
            refine At.seq ?_
            refine At.region_end [1, 5, 6] [0] _ (st' := ⟨[(1, .ptr 0 0), (5, i64 p0.Op), (6, bo (p0.Op == 21))], [.blk 38 (T_api_Ins.pvs p0)]⟩) (tips := []) (by kernel_rfl) all0 (norm ?_)
            refine At.cond (p0.Op == 21) (by kernel_rfl) (fun b26 => ?_) (fun b26 => ?_)
            · replace h := cond_t b26 h
              refine At.skip (fun a w hs => ⟨(p0.Op == 21), h, hs⟩)
            · replace h := cond_f b26 h
              refine At.region_end [1, 5, 6] [0] _ (st' := ⟨[(1, .ptr 0 0), (5, i64 p0.Op), (6, bo (p0.Op == 22))], [.blk 38 (T_api_Ins.pvs p0)]⟩) (tips := []) (by kernel_rfl) all0 (fun a w hs => ⟨(p0.Op == 22), h, hs⟩)
  · intro x19 h
    replace h : F_patch_Target_J1 p0 x19 = some r := h
    rw [F_patch_Target_J1] at h
    refine At.cond x19 (by kernel_rfl) (fun b20 => ?_) (fun b20 => ?_)
    · replace h := cond_t b20 h
      refine At.seq ?_
      refine At.region_end [2, 3] [] _ (st' := ⟨[(2, i64 p0.A), (3, bo true)], []⟩) (tips := []) (by kernel_rfl) all0 (norm ?_)
      obtain rfl := some_eq h
      exact At.ret fun a w hs => ret_ok hR (ρ := []) (gs := []) (by kernel_rfl) all0 (by kernel_rfl) rfl rfl a w hs _ (.inl rfl)
    · replace h := cond_f b20 h
      refine At.seq ?_
      refine At.region_end [1, 15] [0] _ (st' := ⟨[(1, .ptr 0 0), (15, bo (p0.Op == 19))], [.blk 38 (T_api_Ins.pvs p0)]⟩) (tips := []) (by kernel_rfl) all0 (norm ?_)
      refine At.cond (p0.Op == 19) (by kernel_rfl) (fun b21 => ?_) (fun b21 => ?_)
      · replace h := cond_t b21 h
        refine At.seq ?_
        refine At.region_end [2, 3] [] _ (st' := ⟨[(2, i64 p0.B), (3, bo true)], []⟩) (tips := []) (by kernel_rfl) all0 (norm ?_)
        obtain rfl := some_eq h
        exact At.ret fun a w hs => ret_ok hR (ρ := []) (gs := []) (by kernel_rfl) all0 (by kernel_rfl) rfl rfl a w hs _ (.inl rfl)
      · replace h := cond_f b21 h
        refine At.nar [] [] (st' := ⟨[], []⟩) (by kernel_rfl) ?_
        refine At.skip (norm ?_)
        refine At.seq ?_
        refine At.region_end [2, 3] [] _ (st' := ⟨[(2, i64 0), (3, bo false)], []⟩) (tips := []) (by kernel_rfl) all0 (norm ?_)
        obtain rfl := some_eq h
        exact At.ret fun a w hs => ret_ok hR (ρ := []) (gs := []) (by kernel_rfl) all0 (by kernel_rfl) rfl rfl a w hs _ (.inl rfl)
set_option maxRecDepth 100000 in
theorem C_patch_Aim (p0 : T_api_Ins) (p1 : Int) (r : T_api_Ins) (h : F_patch_Aim p0 p1 = some r) : FnOK Try.prog 29 [.agg (T_api_Ins.pvs p0), i64 p1] [] (.agg (T_api_Ins.pvs r)) [] [] := by
  rw [F_patch_Aim] at h
  refine FnOK.intro Try.func29 rfl (by kernel_rfl) (by kernel_rfl) fun E gv R hR => ?_
  refine At.seq ?_
  refine At.region_end [1, 2, 4] [0, 1] _ (st' := ⟨[(1, i64 p1), (2, .ptr 0 0), (4, .ptr 1 0)], [.blk 38 (T_api_Ins.pvs p0), .blk 38 [i64 0, i64 0, i64 0]]⟩) (tips := []) (by kernel_rfl) all0 (norm ?_)
  refine At.seq ?_
  refine At.seq ?_
  obtain ⟨y5, hy5, h⟩ := bind_some h
  refine At.region_end [1, 2, 4, 6] [0, 1] _ (st' := ⟨[(1, i64 p1), (2, .ptr 0 0), (4, .ptr 1 0), (6, bo y5.2)], [.blk 38 (T_api_Ins.pvs p0), .blk 38 [i64 0, i64 0, i64 0]]⟩) (tips := [(1, { pc := some { ρ := [], n0 := 0, res := .tup [i64 y5.1, bo y5.2], σ' := [], e := [] } })]) (by kernel_rfl) (allc (C_patch_Target p0 y5 hy5) all0) (norm ?_)
  refine At.seq ?_
  refine At.region_end [1, 2, 4, 13] [0, 1] _ (st' := ⟨[(1, i64 p1), (2, .ptr 0 0), (4, .ptr 1 0), (13, bo (!y5.2))], [.blk 38 (T_api_Ins.pvs p0), .blk 38 [i64 0, i64 0, i64 0]]⟩) (tips := []) (by kernel_rfl) all0 (norm ?_)
  refine At.cond (!y5.2) (by kernel_rfl) (fun b6 => ?_) (fun b6 => ?_)
  · replace h := cond_t b6 h
    refine At.seq ?_
    refine At.region_end [4] [1] _ (st' := ⟨[(4, .ptr 0 0)], [.blk 38 (T_api_Ins.pvs p0)]⟩) (tips := []) (by kernel_rfl) all0 (norm ?_)
    obtain rfl := some_eq h
    exact At.ret fun a w hs => ret_ok hR (ρ := []) (gs := []) (by kernel_rfl) all0 (by kernel_rfl) rfl rfl a w hs _ (.inl rfl)
  · replace h := cond_f b6 h
    refine At.nar [1, 2, 4] [0, 1] (st' := ⟨[(1, i64 p1), (2, .ptr 0 0), (4, .ptr 1 0)], [.blk 38 (T_api_Ins.pvs p0), .blk 38 [i64 0, i64 0, i64 0]]⟩) (by kernel_rfl) ?_
    refine At.skip (norm ?_)
    refine At.seqJ (S := Int × Int) (fun s => ⟨[(2, .ptr 0 0), (4, .ptr 1 0)], [.blk 38 [i64 p0.Op, i64 s.1, i64 s.2], .blk 38 [i64 0, i64 0, i64 0]]⟩) (fun s => F_patch_Aim_J1 p0 s.1 s.2 = some r) ?_ ?_
    · refine At.seq ?_
      refine At.region_end [1, 2, 4, 17] [0, 1] _ (st' := ⟨[(1, i64 p1), (2, .ptr 0 0), (4, .ptr 1 0), (17, bo (p0.Op == 19))], [.blk 38 (T_api_Ins.pvs p0), .blk 38 [i64 0, i64 0, i64 0]]⟩) (tips := []) (by kernel_rfl) all0 (norm ?_)
      refine At.cond (p0.Op == 19) (by kernel_rfl) (fun b10 => ?_) (fun b10 => ?_)
      · replace h := cond_t b10 h
        refine At.region_end [2, 4] [0, 1] _ (st' := ⟨[(2, .ptr 0 0), (4, .ptr 1 0)], [.blk 38 [i64 p0.Op, i64 p0.A, i64 p1], .blk 38 [i64 0, i64 0, i64 0]]⟩) (tips := []) (by kernel_rfl) all0 (fun a w hs => ⟨(p0.A, p1), h, hs⟩)
      · replace h := cond_f b10 h
        refine At.region_end [2, 4] [0, 1] _ (st' := ⟨[(2, .ptr 0 0), (4, .ptr 1 0)], [.blk 38 [i64 p0.Op, i64 p1, i64 p0.B], .blk 38 [i64 0, i64 0, i64 0]]⟩) (tips := []) (by kernel_rfl) all0 (fun a w hs => ⟨(p1, p0.B), h, hs⟩)
    · rintro ⟨x8, x9⟩ h
      replace h : F_patch_Aim_J1 p0 x8 x9 = some r := h
      rw [F_patch_Aim_J1] at h
      refine At.seq ?_
      refine At.region_end [4] [1] _ (st' := ⟨[(4, .ptr 0 0)], [.blk 38 [i64 p0.Op, i64 x8, i64 x9]]⟩) (tips := []) (by kernel_rfl) all0 (norm ?_)
      obtain rfl := some_eq h
      exact At.ret fun a w hs => ret_ok hR (ρ := []) (gs := []) (by kernel_rfl) all0 (by kernel_rfl) rfl rfl a w hs _ (.inl rfl)
set_option maxRecDepth 100000 in
theorem C_patch_Asm_Done (o0 : T_patch_Asm) (r : (List T_api_Ins) × Int) (h : F_patch_Asm_Done o0 = some r) : FnOK Try.prog 25 [.ptr 0 0] [.blk 36 [.row 1 (o0.cells).length, .row 2 (o0.labels).length], .row 87 5 (encL T_patch_cell.enc o0.cells), .row 3 1 (encL (eInt .i64) o0.labels)] (.tup [.row 3 (r.1).length, i64 r.2]) [.blk 36 [.row 1 (o0.cells).length, .row 2 (o0.labels).length], .row 87 5 (encL T_patch_cell.enc o0.cells), .row 3 1 (encL (eInt .i64) o0.labels), .row 38 3 (encL T_api_Ins.enc r.1)] [1, 2, 4] := by
  rw [F_patch_Asm_Done] at h
  refine FnOK.intro Try.func25 rfl (by kernel_rfl) (by kernel_rfl) fun E gv R hR => ?_
  refine At.seq ?_
  refine At.region_end [0] [0, 1, 2, 3, 4, 5] _ (st' := ⟨[(0, .ptr 0 0)], [.blk 36 [.row 1 (o0.cells).length, .row 2 (o0.labels).length], .row 87 5 (encL T_patch_cell.enc o0.cells), .row 3 1 (encL (eInt .i64) o0.labels), .ghost (gv 0) (.ptr 0 0), .ghost (gv 1) (.row 1 0), .ghost (gv 2) (.row 2 0)]⟩) (tips := []) (by kernel_rfl) all0 (norm ?_)
  refine At.seq ?_
  refine At.seq ?_
  refine At.region_end [0, 8] [0, 1, 2, 3, 4, 5] _ (st' := ⟨[(0, .ptr 0 0), (8, bo false)], [.blk 36 [.row 1 (o0.cells).length, .row 2 (o0.labels).length], .row 87 5 (encL T_patch_cell.enc o0.cells), .row 3 1 (encL (eInt .i64) o0.labels), .ghost (gv 0) (.ptr 0 0), .ghost (gv 1) (.row 1 0), .ghost (gv 2) (.row 2 0)]⟩) (tips := []) (by kernel_rfl) all0 (norm ?_)
  refine At.cond false (by kernel_rfl) (fun hb => by cases hb) (fun _ => ?_)
  refine At.nar [0] [0, 1, 2, 3, 4, 5] (st' := ⟨[(0, .ptr 0 0)], [.blk 36 [.row 1 (o0.cells).length, .row 2 (o0.labels).length], .row 87 5 (encL T_patch_cell.enc o0.cells), .row 3 1 (encL (eInt .i64) o0.labels), .ghost (gv 0) (.ptr 0 0), .ghost (gv 1) (.row 1 0), .ghost (gv 2) (.row 2 0)]⟩) (by kernel_rfl) ?_
  refine At.skip (norm ?_)
  refine At.seq ?_
  refine At.region_end [0, 4] [0, 1, 2, 3, 4, 5] _ (st' := ⟨[(0, .ptr 0 0), (4, .d (.list true 0 []))], [.blk 36 [.row 1 (o0.cells).length, .row 2 (o0.labels).length], .row 87 5 (encL T_patch_cell.enc o0.cells), .row 3 1 (encL (eInt .i64) o0.labels), .ghost (gv 0) (.ptr 0 0), .ghost (gv 1) (.row 1 0), .ghost (gv 2) (.row 2 0)]⟩) (tips := []) (by kernel_rfl) all0 (norm ?_)
  refine At.seq ?_
  refine At.seq ?_
  refine At.region_end [0, 4, 12, 13, 14] [0, 1, 2, 3, 4, 5] _ (st' := ⟨[(0, .ptr 0 0), (4, .d (.list true 0 [])), (12, .row 1 (o0.cells).length), (13, i64 ((o0.cells).length : Int)), (14, i64 0)], [.blk 36 [.row 1 (o0.cells).length, .row 2 (o0.labels).length], .row 87 5 (encL T_patch_cell.enc o0.cells), .row 3 1 (encL (eInt .i64) o0.labels), .ghost (gv 0) (.ptr 0 0), .ghost (gv 1) (.row 1 0), .ghost (gv 2) (.row 2 0)]⟩) (tips := []) (by kernel_rfl) all0 (norm ?_)
  refine At.block ?_
  refine At.edNar [.ownS 4 38 3] [0, 4, 12, 13, 14] [0, 1, 2, 3, 4, 5, 6] (st' := ⟨[(0, .ptr 0 0), (4, .row 6 ([] : List T_api_Ins).length), (12, .row 1 (o0.cells).length), (13, i64 ((o0.cells).length : Int)), (14, i64 0)], [.blk 36 [.row 1 (o0.cells).length, .row 2 (o0.labels).length], .row 87 5 (encL T_patch_cell.enc o0.cells), .row 3 1 (encL (eInt .i64) o0.labels), .ghost (gv 0) (.ptr 0 0), .ghost (gv 1) (.row 1 0), .ghost (gv 2) (.row 2 0), .row 38 3 (encL T_api_Ins.enc ([]))]⟩) (by kernel_rfl) ?_
  refine At.loop (fun s : (Int × (List T_api_Ins)) => F_patch_Asm_Done_L2 o0 s.1 s.2) (fun s : (Int × (List T_api_Ins)) => ⟨[(0, .ptr 0 0), (4, .row 6 (s.2).length), (12, .row 1 (o0.cells).length), (13, i64 ((o0.cells).length : Int)), (14, i64 s.1)], [.blk 36 [.row 1 (o0.cells).length, .row 2 (o0.labels).length], .row 87 5 (encL T_patch_cell.enc o0.cells), .row 3 1 (encL (eInt .i64) o0.labels), .ghost (gv 0) (.ptr 0 0), .ghost (gv 1) (.row 1 0), .ghost (gv 2) (.row 2 0), .row 38 3 (encL T_api_Ins.enc s.2)]⟩) r (0, ([] : (List T_api_Ins))) h ?_
  rintro ⟨x40, x41⟩ oo42 h f43
  replace h : F_patch_Asm_Done_L2 o0 x40 x41 = some oo42 := h
  rw [F_patch_Asm_Done_L2] at h
  refine At.seq ?_
  refine At.region_end [0, 4, 12, 13, 14, 15] [0, 1, 2, 3, 4, 5, 6] _ (st' := ⟨[(0, .ptr 0 0), (4, .row 6 (x41).length), (12, .row 1 (o0.cells).length), (13, i64 ((o0.cells).length : Int)), (14, i64 x40), (15, bo (decide (x40 < ((o0.cells).length : Int))))], [.blk 36 [.row 1 (o0.cells).length, .row 2 (o0.labels).length], .row 87 5 (encL T_patch_cell.enc o0.cells), .row 3 1 (encL (eInt .i64) o0.labels), .ghost (gv 0) (.ptr 0 0), .ghost (gv 1) (.row 1 0), .ghost (gv 2) (.row 2 0), .row 38 3 (encL T_api_Ins.enc x41)]⟩) (tips := []) (by kernel_rfl) all0 (norm ?_)
  refine At.seq ?_
  refine At.cond (decide (x40 < ((o0.cells).length : Int))) (by kernel_rfl) (fun b45 => ?_) (fun b45 => ?_)
  · replace h := cond_t b45 h
    refine At.nar [0, 4, 12, 13, 14] [0, 1, 2, 3, 4, 5, 6] (st' := ⟨[(0, .ptr 0 0), (4, .row 6 (x41).length), (12, .row 1 (o0.cells).length), (13, i64 ((o0.cells).length : Int)), (14, i64 x40)], [.blk 36 [.row 1 (o0.cells).length, .row 2 (o0.labels).length], .row 87 5 (encL T_patch_cell.enc o0.cells), .row 3 1 (encL (eInt .i64) o0.labels), .ghost (gv 0) (.ptr 0 0), .ghost (gv 1) (.row 1 0), .ghost (gv 2) (.row 2 0), .row 38 3 (encL T_api_Ins.enc x41)]⟩) (by kernel_rfl) ?_
    refine At.skip (norm ?_)
    refine At.seqJ (S := (List T_api_Ins)) (fun s => ⟨[(0, .ptr 0 0), (4, .row 6 (s).length), (12, .row 1 (o0.cells).length), (13, i64 ((o0.cells).length : Int)), (14, i64 x40)], [.blk 36 [.row 1 (o0.cells).length, .row 2 (o0.labels).length], .row 87 5 (encL T_patch_cell.enc o0.cells), .row 3 1 (encL (eInt .i64) o0.labels), .ghost (gv 0) (.ptr 0 0), .ghost (gv 1) (.row 1 0), .ghost (gv 2) (.row 2 0), .row 38 3 (encL T_api_Ins.enc s)]⟩) (fun s => F_patch_Asm_Done_J1 x40 s = some oo42) ?_ ?_
    · refine At.block ?_
      refine At.seq ?_
      obtain ⟨y61, hy61, h⟩ := bind_some h
      refine At.region_end [0, 4, 6, 12, 13, 14] [0, 1, 2, 3, 4, 5, 6, 7] _ (st' := ⟨[(0, .ptr 0 0), (4, .row 6 (x41).length), (6, .ptr 7 0), (12, .row 1 (o0.cells).length), (13, i64 ((o0.cells).length : Int)), (14, i64 x40)], [.blk 36 [.row 1 (o0.cells).length, .row 2 (o0.labels).length], .row 87 5 (encL T_patch_cell.enc o0.cells), .row 3 1 (encL (eInt .i64) o0.labels), .ghost (gv 0) (.ptr 0 0), .ghost (gv 1) (.row 1 0), .ghost (gv 2) (.row 2 0), .row 38 3 (encL T_api_Ins.enc x41), .blk 87 (T_patch_cell.pvs y61)]⟩) (tips := [(1, { orc := .cells [.int .i64 y61.Ins.Op, .int .i64 y61.Ins.A, .int .i64 y61.Ins.B, .int .i64 y61.label, .bool y61.aimed] })]) (by kernel_rfl) (allc (rEl hy61) (allc (rElC T_patch_cell.enc_len hy61 0 5 (by decide) (by rfl)) all0)) (norm ?_)
      refine At.block ?_
      refine At.seq ?_
      refine At.region_end [0, 4, 6, 12, 13, 14, 33] [0, 1, 2, 3, 4, 5, 6, 7] _ (st' := ⟨[(0, .ptr 0 0), (4, .row 6 (x41).length), (6, .ptr 7 0), (12, .row 1 (o0.cells).length), (13, i64 ((o0.cells).length : Int)), (14, i64 x40), (33, bo (!y61.aimed))], [.blk 36 [.row 1 (o0.cells).length, .row 2 (o0.labels).length], .row 87 5 (encL T_patch_cell.enc o0.cells), .row 3 1 (encL (eInt .i64) o0.labels), .ghost (gv 0) (.ptr 0 0), .ghost (gv 1) (.row 1 0), .ghost (gv 2) (.row 2 0), .row 38 3 (encL T_api_Ins.enc x41), .blk 87 (T_patch_cell.pvs y61)]⟩) (tips := []) (by kernel_rfl) all0 (norm ?_)
      refine At.cond (!y61.aimed) (by kernel_rfl) (fun b62 => ?_) (fun b62 => ?_)
      · replace h := cond_t b62 h
        obtain ⟨g63, h⟩ := grd_some h
        refine At.region_end [0, 4, 12, 13, 14] [0, 1, 2, 3, 4, 5, 6] _ (st' := ⟨[(0, .ptr 0 0), (4, .row 6 ((x41 ++ [y61.Ins])).length), (12, .row 1 (o0.cells).length), (13, i64 ((o0.cells).length : Int)), (14, i64 x40)], [.blk 36 [.row 1 (o0.cells).length, .row 2 (o0.labels).length], .row 87 5 (encL T_patch_cell.enc o0.cells), .row 3 1 (encL (eInt .i64) o0.labels), .ghost (gv 0) (.ptr 0 0), .ghost (gv 1) (.row 1 0), .ghost (gv 2) (.row 2 0), .row 38 3 (encL T_api_Ins.enc (x41 ++ [y61.Ins]))]⟩) (tips := [(12, { form := some ((x41 ++ [y61.Ins]).length, encL T_api_Ins.enc (x41 ++ [y61.Ins])) })]) (by kernel_rfl) (allc (len_app x41 ([y61.Ins])) (allc (encL_app T_api_Ins.enc x41 ([y61.Ins])) (allc (app_ok T_api_Ins.enc_len (by decide) g63) (allc (encL_len T_api_Ins.enc_len ([y61.Ins])) all0)))) (fun a w hs => ⟨(x41 ++ [y61.Ins]), h, hs⟩)
      · replace h := cond_f b62 h
        refine At.seq ?_
        obtain ⟨y65, hy65, h⟩ := bind_some h
        refine At.region_end [0, 4, 6, 12, 13, 14, 50] [0, 1, 2, 3, 4, 5, 6, 7] _ (st' := ⟨[(0, .ptr 0 0), (4, .row 6 (x41).length), (6, .ptr 7 0), (12, .row 1 (o0.cells).length), (13, i64 ((o0.cells).length : Int)), (14, i64 x40), (50, bo (!y65))], [.blk 36 [.row 1 (o0.cells).length, .row 2 (o0.labels).length], .row 87 5 (encL T_patch_cell.enc o0.cells), .row 3 1 (encL (eInt .i64) o0.labels), .ghost (gv 0) (.ptr 0 0), .ghost (gv 1) (.row 1 0), .ghost (gv 2) (.row 2 0), .row 38 3 (encL T_api_Ins.enc x41), .blk 87 (T_patch_cell.pvs y61)]⟩) (tips := [(3, { pc := some { ρ := [0, 1, 2], n0 := 3, res := bo y65, σ' := [.blk 36 [.row 1 (o0.cells).length, .row 2 (o0.labels).length], .row 87 5 (encL T_patch_cell.enc o0.cells), .row 3 1 (encL (eInt .i64) o0.labels)], e := [1, 2, 4] } })]) (by kernel_rfl) (allc (C_patch_Asm_has y61.label o0 y65 hy65) all0) (norm ?_)
        refine At.cond (!y65) (by kernel_rfl) (fun b66 => ?_) (fun b66 => ?_)
        · replace h := cond_t b66 h
          refine At.seq ?_
          refine At.region_end [2, 3] [0, 1, 2, 3, 4, 5] _ (st' := ⟨[(2, .d (.list true 0 [])), (3, i64 1)], [.blk 36 [.row 1 (o0.cells).length, .row 2 (o0.labels).length], .row 87 5 (encL T_patch_cell.enc o0.cells), .row 3 1 (encL (eInt .i64) o0.labels), .ghost (gv 0) (.ptr 0 0), .ghost (gv 1) (.row 1 0), .ghost (gv 2) (.row 2 0)]⟩) (tips := []) (by kernel_rfl) all0 (norm ?_)
          obtain ⟨r67, h, e68⟩ := map_inr h
          rw [f43 _ e68] at h
          refine At.edNar [.ownS 2 38 3] [2, 3] [0, 1, 2, 3, 4, 5, 6] (st' := ⟨[(2, .row 6 ([] : List T_api_Ins).length), (3, i64 1)], [.blk 36 [.row 1 (o0.cells).length, .row 2 (o0.labels).length], .row 87 5 (encL T_patch_cell.enc o0.cells), .row 3 1 (encL (eInt .i64) o0.labels), .ghost (gv 0) (.ptr 0 0), .ghost (gv 1) (.row 1 0), .ghost (gv 2) (.row 2 0), .row 38 3 (encL T_api_Ins.enc ([]))]⟩) (by kernel_rfl) ?_
          obtain rfl := some_eq h
          exact At.ret fun a w hs => ret_ok hR (ρ := [0, 1, 2, 6]) (gs := [.ghost (gv 0) (.ptr 0 0), .ghost (gv 1) (.row 1 0), .ghost (gv 2) (.row 2 0)]) (by kernel_rfl) all0 (by kernel_rfl) rfl rfl a w hs _ (.inl rfl)
        · replace h := cond_f b66 h
          refine At.seq ?_
          obtain ⟨y70, hy70, h⟩ := bind_some h
          refine At.draw_end mixedOrd 0 [0, 4, 6, 12, 13, 14, 56] [0, 1, 2, 3, 4, 5, 6, 7] _ (st' := ⟨[(0, .ptr 0 0), (4, .row 6 (x41).length), (6, .ptr 7 0), (12, .row 1 (o0.cells).length), (13, i64 ((o0.cells).length : Int)), (14, i64 x40), (56, bo (decide (y70 < 0)))], [.blk 36 [.row 1 (o0.cells).length, .row 2 (o0.labels).length], .row 87 5 (encL T_patch_cell.enc o0.cells), .row 3 1 (encL (eInt .i64) o0.labels), .ghost (gv 0) (.ptr 0 0), .ghost (gv 1) (.row 1 0), .ghost (gv 2) (.row 2 0), .row 38 3 (encL T_api_Ins.enc x41), .blk 87 (T_patch_cell.pvs y61)]⟩) (tips := [(0, { r := 8 }), (1, { r := 8 }), (2, { r := 8 }), (3, { T := [0], r := 8 }), (4, { r := 8 }), (5, { T := [7], r := 8 }), (7, { r := 8 }), (8, { tip := { orc := .val (.int .i64 y70) }, T := [2], r := 8 })]) (by kernel_rfl) (allc ((rAt_of (he_int .i64) (d := .int .i64 y70) hy70 rfl).1) (allc ((rAt_of (he_int .i64) (d := .int .i64 y70) hy70 rfl).2) all0)) (norm ?_)
          refine At.cond (decide (y70 < 0)) (by kernel_rfl) (fun b71 => ?_) (fun b71 => ?_)
          · replace h := cond_t b71 h
            refine At.seq ?_
            refine At.region_end [2, 3] [0, 1, 2, 3, 4, 5] _ (st' := ⟨[(2, .d (.list true 0 [])), (3, i64 7)], [.blk 36 [.row 1 (o0.cells).length, .row 2 (o0.labels).length], .row 87 5 (encL T_patch_cell.enc o0.cells), .row 3 1 (encL (eInt .i64) o0.labels), .ghost (gv 0) (.ptr 0 0), .ghost (gv 1) (.row 1 0), .ghost (gv 2) (.row 2 0)]⟩) (tips := []) (by kernel_rfl) all0 (norm ?_)
            obtain ⟨r72, h, e73⟩ := map_inr h
            rw [f43 _ e73] at h
            refine At.edNar [.ownS 2 38 3] [2, 3] [0, 1, 2, 3, 4, 5, 6] (st' := ⟨[(2, .row 6 ([] : List T_api_Ins).length), (3, i64 7)], [.blk 36 [.row 1 (o0.cells).length, .row 2 (o0.labels).length], .row 87 5 (encL T_patch_cell.enc o0.cells), .row 3 1 (encL (eInt .i64) o0.labels), .ghost (gv 0) (.ptr 0 0), .ghost (gv 1) (.row 1 0), .ghost (gv 2) (.row 2 0), .row 38 3 (encL T_api_Ins.enc ([]))]⟩) (by kernel_rfl) ?_
            obtain rfl := some_eq h
            exact At.ret fun a w hs => ret_ok hR (ρ := [0, 1, 2, 6]) (gs := [.ghost (gv 0) (.ptr 0 0), .ghost (gv 1) (.row 1 0), .ghost (gv 2) (.row 2 0)]) (by kernel_rfl) all0 (by kernel_rfl) rfl rfl a w hs _ (.inl rfl)
          · replace h := cond_f b71 h
            obtain ⟨y74, hy74, h⟩ := bind_some h
            obtain ⟨y75, hy75, h⟩ := bind_some h
            obtain ⟨g76, h⟩ := grd_some h
            refine At.draw_end mixedOrd 1 [0, 4, 12, 13, 14] [0, 1, 2, 3, 4, 5, 6] _ (st' := ⟨[(0, .ptr 0 0), (4, .row 6 ((x41 ++ [y75])).length), (12, .row 1 (o0.cells).length), (13, i64 ((o0.cells).length : Int)), (14, i64 x40)], [.blk 36 [.row 1 (o0.cells).length, .row 2 (o0.labels).length], .row 87 5 (encL T_patch_cell.enc o0.cells), .row 3 1 (encL (eInt .i64) o0.labels), .ghost (gv 0) (.ptr 0 0), .ghost (gv 1) (.row 1 0), .ghost (gv 2) (.row 2 0), .row 38 3 (encL T_api_Ins.enc (x41 ++ [y75]))]⟩) (tips := [(0, { r := 8 }), (1, { r := 8 }), (2, { T := [7], r := 8 }), (3, { r := 8 }), (4, { r := 8 }), (5, { r := 8 }), (6, { T := [0], r := 8 }), (7, { r := 8 }), (8, { T := [7], r := 8 }), (10, { r := 8 }), (11, { tip := { orc := .val (.int .i64 y74) }, T := [2], r := 8 }), (12, { tip := { pc := some { ρ := [], n0 := 0, res := .agg (T_api_Ins.pvs y75), σ' := [], e := [] } }, r := 8 }), (13, { r := 8 }), (14, { tip := { form := some ((x41 ++ [y75]).length, encL T_api_Ins.enc (x41 ++ [y75])) }, T := [6, 8], r := 9 }), (15, { r := 9 })]) (by kernel_rfl) (allc ((rAt_of (he_int .i64) (d := .int .i64 y74) hy74 rfl).1) (allc ((rAt_of (he_int .i64) (d := .int .i64 y74) hy74 rfl).2) (allc (C_patch_Aim y61.Ins y74 y75 hy75) (allc (len_app x41 ([y75])) (allc (encL_app T_api_Ins.enc x41 ([y75])) (allc (app_ok T_api_Ins.enc_len (by decide) g76) (allc (encL_len T_api_Ins.enc_len ([y75])) all0))))))) (fun a w hs => ⟨(x41 ++ [y75]), h, hs⟩)
    · intro x59 h
      replace h : F_patch_Asm_Done_J1 x40 x59 = some oo42 := h
      rw [F_patch_Asm_Done_J1] at h
      refine At.region_end [0, 4, 12, 13, 14] [0, 1, 2, 3, 4, 5, 6] _ (st' := ⟨[(0, .ptr 0 0), (4, .row 6 (x59).length), (12, .row 1 (o0.cells).length), (13, i64 ((o0.cells).length : Int)), (14, i64 (w64 (x40 + 1)))], [.blk 36 [.row 1 (o0.cells).length, .row 2 (o0.labels).length], .row 87 5 (encL T_patch_cell.enc o0.cells), .row 3 1 (encL (eInt .i64) o0.labels), .ghost (gv 0) (.ptr 0 0), .ghost (gv 1) (.row 1 0), .ghost (gv 2) (.row 2 0), .row 38 3 (encL T_api_Ins.enc x59)]⟩) (tips := []) (by kernel_rfl) all0 (fun a w hs => ⟨_, (some_eq h).symm, hs⟩)
  · replace h := cond_f b45 h
    refine At.nar [4] [0, 1, 2, 3, 4, 5, 6] (st' := ⟨[(4, .row 6 (x41).length)], [.blk 36 [.row 1 (o0.cells).length, .row 2 (o0.labels).length], .row 87 5 (encL T_patch_cell.enc o0.cells), .row 3 1 (encL (eInt .i64) o0.labels), .ghost (gv 0) (.ptr 0 0), .ghost (gv 1) (.row 1 0), .ghost (gv 2) (.row 2 0), .row 38 3 (encL T_api_Ins.enc x41)]⟩) (by kernel_rfl) ?_
    obtain ⟨r77, h, e78⟩ := map_inr h
    rw [f43 _ e78] at h
    refine At.exit (norm ?_)
    refine At.seq ?_
    refine At.region_end [2, 3] [0, 1, 2, 3, 4, 5, 6] _ (st' := ⟨[(2, .row 6 (x41).length), (3, i64 0)], [.blk 36 [.row 1 (o0.cells).length, .row 2 (o0.labels).length], .row 87 5 (encL T_patch_cell.enc o0.cells), .row 3 1 (encL (eInt .i64) o0.labels), .ghost (gv 0) (.ptr 0 0), .ghost (gv 1) (.row 1 0), .ghost (gv 2) (.row 2 0), .row 38 3 (encL T_api_Ins.enc x41)]⟩) (tips := []) (by kernel_rfl) all0 (norm ?_)
    obtain rfl := some_eq h
    exact At.ret fun a w hs => ret_ok hR (ρ := [0, 1, 2, 6]) (gs := [.ghost (gv 0) (.ptr 0 0), .ghost (gv 1) (.row 1 0), .ghost (gv 2) (.row 2 0)]) (by kernel_rfl) all0 (by kernel_rfl) rfl rfl a w hs _ (.inl rfl)
set_option maxRecDepth 100000 in
theorem C_patch_Asm_Len (o0 : T_patch_Asm) (r : Int) (h : F_patch_Asm_Len o0 = some r) : FnOK Try.prog 24 [.ptr 0 0] [.blk 36 [.row 1 (o0.cells).length, .row 2 (o0.labels).length], .row 87 5 (encL T_patch_cell.enc o0.cells), .row 3 1 (encL (eInt .i64) o0.labels)] (i64 r) [.blk 36 [.row 1 (o0.cells).length, .row 2 (o0.labels).length], .row 87 5 (encL T_patch_cell.enc o0.cells), .row 3 1 (encL (eInt .i64) o0.labels)] [1, 2, 4] := by
  rw [F_patch_Asm_Len] at h
  refine FnOK.intro Try.func24 rfl (by kernel_rfl) (by kernel_rfl) fun E gv R hR => ?_
  refine At.seq ?_
  refine At.region_end [0] [0, 1, 2, 3, 4, 5] _ (st' := ⟨[(0, .ptr 0 0)], [.blk 36 [.row 1 (o0.cells).length, .row 2 (o0.labels).length], .row 87 5 (encL T_patch_cell.enc o0.cells), .row 3 1 (encL (eInt .i64) o0.labels), .ghost (gv 0) (.ptr 0 0), .ghost (gv 1) (.row 1 0), .ghost (gv 2) (.row 2 0)]⟩) (tips := []) (by kernel_rfl) all0 (norm ?_)
  refine At.seq ?_
  refine At.seq ?_
  refine At.region_end [0, 4] [0, 1, 2, 3, 4, 5] _ (st' := ⟨[(0, .ptr 0 0), (4, bo false)], [.blk 36 [.row 1 (o0.cells).length, .row 2 (o0.labels).length], .row 87 5 (encL T_patch_cell.enc o0.cells), .row 3 1 (encL (eInt .i64) o0.labels), .ghost (gv 0) (.ptr 0 0), .ghost (gv 1) (.row 1 0), .ghost (gv 2) (.row 2 0)]⟩) (tips := []) (by kernel_rfl) all0 (norm ?_)
  refine At.cond false (by kernel_rfl) (fun hb => by cases hb) (fun _ => ?_)
  refine At.nar [0] [0, 1, 2, 3, 4, 5] (st' := ⟨[(0, .ptr 0 0)], [.blk 36 [.row 1 (o0.cells).length, .row 2 (o0.labels).length], .row 87 5 (encL T_patch_cell.enc o0.cells), .row 3 1 (encL (eInt .i64) o0.labels), .ghost (gv 0) (.ptr 0 0), .ghost (gv 1) (.row 1 0), .ghost (gv 2) (.row 2 0)]⟩) (by kernel_rfl) ?_
  refine At.skip (norm ?_)
  refine At.seq ?_
  refine At.region_end [2] [0, 1, 2, 3, 4, 5] _ (st' := ⟨[(2, i64 ((o0.cells).length : Int))], [.blk 36 [.row 1 (o0.cells).length, .row 2 (o0.labels).length], .row 87 5 (encL T_patch_cell.enc o0.cells), .row 3 1 (encL (eInt .i64) o0.labels), .ghost (gv 0) (.ptr 0 0), .ghost (gv 1) (.row 1 0), .ghost (gv 2) (.row 2 0)]⟩) (tips := []) (by kernel_rfl) all0 (norm ?_)
  obtain rfl := some_eq h
  exact At.ret fun a w hs => ret_ok hR (ρ := [0, 1, 2]) (gs := [.ghost (gv 0) (.ptr 0 0), .ghost (gv 1) (.row 1 0), .ghost (gv 2) (.row 2 0)]) (by kernel_rfl) all0 (by kernel_rfl) rfl rfl a w hs _ (.inl rfl)
set_option maxRecDepth 100000 in
theorem C_retracelaw17_live  (r : Bool) (h : F_retracelaw17_live  = some r) : FnOK Try.prog 17 [] [] (bo r) [] [] := by
  rw [F_retracelaw17_live] at h
  refine FnOK.intro Try.func17 rfl (by kernel_rfl) (by kernel_rfl) fun E gv R hR => ?_
  refine At.seq ?_
  refine At.region_end [] [] _ (st' := ⟨[], []⟩) (tips := []) (by kernel_rfl) all0 (norm ?_)
  refine At.seq ?_
  refine At.region_end [1] [0] _ (st' := ⟨[(1, .ptr 0 0)], [.blk 36 [.d (.list true 0 []), .d (.list true 0 [])]]⟩) (tips := []) (by kernel_rfl) all0 (norm ?_)
  refine At.seq ?_
  refine At.eds [.ownO 0 0 87 5] (st' := ⟨[(1, .ptr 0 0)], [.blk 36 [.row 1 ([] : List T_patch_cell).length, .d (.list true 0 [])], .row 87 5 (encL T_patch_cell.enc ([]))]⟩) (by kernel_rfl) ?_
  refine At.eds [.ownO 0 1 3 1] (st' := ⟨[(1, .ptr 0 0)], [.blk 36 [.row 1 ([] : List T_patch_cell).length, .row 2 ([] : List Int).length], .row 87 5 (encL T_patch_cell.enc ([])), .row 3 1 (encL (eInt .i64) ([]))]⟩) (by kernel_rfl) ?_
  obtain ⟨y2, hy2, h⟩ := bind_some h
  refine At.region_end [1, 2] [0, 1, 2] _ (st' := ⟨[(1, .ptr 0 0), (2, i64 y2.1)], [.blk 36 [.row 1 (y2.2.cells).length, .row 2 (y2.2.labels).length], .row 87 5 (encL T_patch_cell.enc y2.2.cells), .row 3 1 (encL (eInt .i64) y2.2.labels)]⟩) (tips := [(1, { pc := some { ρ := [0, 1, 2], n0 := 3, res := i64 y2.1, σ' := [.blk 36 [.row 1 (y2.2.cells).length, .row 2 (y2.2.labels).length], .row 87 5 (encL T_patch_cell.enc y2.2.cells), .row 3 1 (encL (eInt .i64) y2.2.labels)], e := [1, 2, 4, 5] } })]) (by kernel_rfl) (allc (C_patch_Asm_Label (⟨([] : List T_patch_cell), ([] : List Int)⟩ : T_patch_Asm) y2 hy2) all0) (norm ?_)
  refine At.seq ?_
  obtain ⟨y4, hy4, h⟩ := bind_some h
  refine At.region_end [1, 2] [0, 1, 2] _ (st' := ⟨[(1, .ptr 0 0), (2, i64 y2.1)], [.blk 36 [.row 1 (y4.2.cells).length, .row 2 (y4.2.labels).length], .row 87 5 (encL T_patch_cell.enc y4.2.cells), .row 3 1 (encL (eInt .i64) y4.2.labels)]⟩) (tips := [(2, { pc := some { ρ := [0, 1, 2], n0 := 3, res := i64 y4.1, σ' := [.blk 36 [.row 1 (y4.2.cells).length, .row 2 (y4.2.labels).length], .row 87 5 (encL T_patch_cell.enc y4.2.cells), .row 3 1 (encL (eInt .i64) y4.2.labels)], e := [1, 2, 3, 4] } })]) (by kernel_rfl) (allc (C_patch_Asm_Go 6 0 0 y2.1 y2.2 y4 hy4) all0) (norm ?_)
  refine At.seq ?_
  obtain ⟨y6, hy6, h⟩ := bind_some h
  refine At.region_end [1, 2] [0, 1, 2] _ (st' := ⟨[(1, .ptr 0 0), (2, i64 y2.1)], [.blk 36 [.row 1 (y6.2.cells).length, .row 2 (y6.2.labels).length], .row 87 5 (encL T_patch_cell.enc y6.2.cells), .row 3 1 (encL (eInt .i64) y6.2.labels)]⟩) (tips := [(3, { pc := some { ρ := [0, 1, 2, 3], n0 := 4, res := i64 y6.1, σ' := [.blk 36 [.row 1 (y6.2.cells).length, .row 2 (y6.2.labels).length], .row 87 5 (encL T_patch_cell.enc y6.2.cells), .row 3 1 (encL (eInt .i64) y6.2.labels), .row 38 3 (encL T_api_Ins.enc ([(⟨17, 0, 0⟩ : T_api_Ins)]))], e := [1, 2, 3, 4, 6] } })]) (by kernel_rfl) (allc (C_patch_Asm_Put y4.2 ([(⟨17, 0, 0⟩ : T_api_Ins)]) y6 hy6) all0) (norm ?_)
  refine At.seq ?_
  obtain ⟨y8, hy8, h⟩ := bind_some h
  refine At.region_end [1, 2, 3] [0, 1, 2] _ (st' := ⟨[(1, .ptr 0 0), (2, i64 y2.1), (3, i64 y8.1)], [.blk 36 [.row 1 (y8.2.cells).length, .row 2 (y8.2.labels).length], .row 87 5 (encL T_patch_cell.enc y8.2.cells), .row 3 1 (encL (eInt .i64) y8.2.labels)]⟩) (tips := [(2, { pc := some { ρ := [0, 1, 2], n0 := 3, res := i64 y8.1, σ' := [.blk 36 [.row 1 (y8.2.cells).length, .row 2 (y8.2.labels).length], .row 87 5 (encL T_patch_cell.enc y8.2.cells), .row 3 1 (encL (eInt .i64) y8.2.labels)], e := [1, 2, 4] } })]) (by kernel_rfl) (allc (C_patch_Asm_Bind y2.1 y6.2 y8 hy8) all0) (norm ?_)
  refine At.seq ?_
  obtain ⟨y10, hy10, h⟩ := bind_some h
  refine At.region_end [1, 2, 3, 4, 5] [0, 1, 2, 3] _ (st' := ⟨[(1, .ptr 0 0), (2, i64 y2.1), (3, i64 y8.1), (4, .row 3 (y10.1).length), (5, i64 y10.2)], [.blk 36 [.row 1 (y8.2.cells).length, .row 2 (y8.2.labels).length], .row 87 5 (encL T_patch_cell.enc y8.2.cells), .row 3 1 (encL (eInt .i64) y8.2.labels), .row 38 3 (encL T_api_Ins.enc y10.1)]⟩) (tips := [(1, { pc := some { ρ := [0, 1, 2, 3], n0 := 3, res := .tup [.row 3 (y10.1).length, i64 y10.2], σ' := [.blk 36 [.row 1 (y8.2.cells).length, .row 2 (y8.2.labels).length], .row 87 5 (encL T_patch_cell.enc y8.2.cells), .row 3 1 (encL (eInt .i64) y8.2.labels), .row 38 3 (encL T_api_Ins.enc y10.1)], e := [1, 2, 4] } })]) (by kernel_rfl) (allc (C_patch_Asm_Done y8.2 y10 hy10) all0) (norm ?_)
  refine At.seqJ (S := Bool) (fun s => ⟨[(0, bo s)], []⟩) (fun s => F_retracelaw17_live_J1 s = some r) ?_ ?_
  · rcases tf (y2.1 == 1) with b19 | b19
    · replace h := cond_t b19 h
      rcases tf (y8.1 == 0) with b20 | b20
      · replace h := cond_t b20 h
        rcases tf (y10.2 == 0) with b21 | b21
        · replace h := cond_t b21 h
          rcases tf (((y10.1).length : Int) == 2) with b22 | b22
          · replace h := cond_t b22 h
            obtain ⟨y23, hy23, h⟩ := bind_some h
            rcases tf ((y23.Op == 6) && ((y23.A == 2) && ((y23.B == 0) && true))) with b24 | b24
            · replace h := cond_t b24 h
              obtain ⟨y25, hy25, h⟩ := bind_some h
              refine At.region_end [0] [] _ (st' := ⟨[(0, bo (y25 == 2))], []⟩) (tips := [(2, { orc := .val (.bool true) }), (6, { orc := .val (.bool true) }), (10, { orc := .val (.bool true) }), (15, { orc := .val (.bool true) }), (18, { orc := .cells [.int .i64 y23.Op, .int .i64 y23.A, .int .i64 y23.B] }), (22, { orc := .val (.bool true) }), (24, { pc := some { ρ := [0, 1, 2], n0 := 3, res := i64 y25, σ' := [.blk 36 [.row 1 (y8.2.cells).length, .row 2 (y8.2.labels).length], .row 87 5 (encL T_patch_cell.enc y8.2.cells), .row 3 1 (encL (eInt .i64) y8.2.labels)], e := [1, 2, 4] } })]) (by kernel_rfl) (allc (congrArg D.bool b19) (allc (congrArg D.bool b20) (allc (congrArg D.bool b21) (allc (congrArg D.bool b22) (allc (rEl hy23) (allc (rElC T_api_Ins.enc_len hy23 0 3 (by decide) (by rfl)) (allc (congrArg D.bool b24) (allc (C_patch_Asm_Len y8.2 y25 hy25) all0)))))))) (fun a w hs => ⟨(y25 == 2), h, hs⟩)
            · replace h := cond_f b24 h
              refine At.region_end [0] [] _ (st' := ⟨[(0, bo false)], []⟩) (tips := [(2, { orc := .val (.bool true) }), (6, { orc := .val (.bool true) }), (10, { orc := .val (.bool true) }), (15, { orc := .val (.bool true) }), (18, { orc := .cells [.int .i64 y23.Op, .int .i64 y23.A, .int .i64 y23.B] }), (22, { orc := .val (.bool false) })]) (by kernel_rfl) (allc (congrArg D.bool b19) (allc (congrArg D.bool b20) (allc (congrArg D.bool b21) (allc (congrArg D.bool b22) (allc (rEl hy23) (allc (rElC T_api_Ins.enc_len hy23 0 3 (by decide) (by rfl)) (allc (congrArg D.bool b24) all0))))))) (fun a w hs => ⟨false, h, hs⟩)
          · replace h := cond_f b22 h
            refine At.region_end [0] [] _ (st' := ⟨[(0, bo false)], []⟩) (tips := [(2, { orc := .val (.bool true) }), (6, { orc := .val (.bool true) }), (10, { orc := .val (.bool true) }), (15, { orc := .val (.bool false) })]) (by kernel_rfl) (allc (congrArg D.bool b19) (allc (congrArg D.bool b20) (allc (congrArg D.bool b21) (allc (congrArg D.bool b22) all0)))) (fun a w hs => ⟨false, h, hs⟩)
        · replace h := cond_f b21 h
          refine At.region_end [0] [] _ (st' := ⟨[(0, bo false)], []⟩) (tips := [(2, { orc := .val (.bool true) }), (6, { orc := .val (.bool true) }), (10, { orc := .val (.bool false) })]) (by kernel_rfl) (allc (congrArg D.bool b19) (allc (congrArg D.bool b20) (allc (congrArg D.bool b21) all0))) (fun a w hs => ⟨false, h, hs⟩)
      · replace h := cond_f b20 h
        refine At.region_end [0] [] _ (st' := ⟨[(0, bo false)], []⟩) (tips := [(2, { orc := .val (.bool true) }), (6, { orc := .val (.bool false) })]) (by kernel_rfl) (allc (congrArg D.bool b19) (allc (congrArg D.bool b20) all0)) (fun a w hs => ⟨false, h, hs⟩)
    · replace h := cond_f b19 h
      refine At.region_end [0] [] _ (st' := ⟨[(0, bo false)], []⟩) (tips := [(2, { orc := .val (.bool false) })]) (by kernel_rfl) (allc (congrArg D.bool b19) all0) (fun a w hs => ⟨false, h, hs⟩)
  · intro x18 h
    replace h : F_retracelaw17_live_J1 x18 = some r := h
    rw [F_retracelaw17_live_J1] at h
    obtain rfl := some_eq h
    exact At.ret fun a w hs => ret_ok hR (ρ := []) (gs := []) (by kernel_rfl) all0 (by kernel_rfl) rfl rfl a w hs _ (.inl rfl)
set_option maxRecDepth 100000 in
theorem C_retraceref17_bound (p0 : (List T_retraceref17_Act)) (p1 : Int) (r : (List Int)) (h : F_retraceref17_bound p0 p1 = some r) : FnOK Try.prog 44 [lv T_retraceref17_Act.enc p0, i64 p1] [] (.dagg (encL (eInt .i64) r)) [] [] := by
  rw [F_retraceref17_bound] at h
  refine FnOK.intro Try.func44 rfl (by kernel_rfl) (by kernel_rfl) fun E gv R hR => ?_
  refine At.seq ?_
  refine At.region_end [0, 1, 4] [0] _ (st' := ⟨[(0, lv T_retraceref17_Act.enc p0), (1, i64 p1), (4, .ptr 0 0)], [.dblk 41 (encL (eInt .i64) (List.replicate 2 (0 : Int)))]⟩) (tips := []) (by kernel_rfl) all0 (norm ?_)
  refine At.seq ?_
  refine At.region_end [0, 1, 4, 5, 6, 7] [0] _ (st' := ⟨[(0, lv T_retraceref17_Act.enc p0), (1, i64 p1), (4, .ptr 0 0), (5, i64 (-1)), (6, i64 0), (7, i64 0)], [.dblk 41 (encL (eInt .i64) (List.replicate 2 (0 : Int)))]⟩) (tips := []) (by kernel_rfl) all0 (norm ?_)
  refine At.seq ?_
  refine At.seq ?_
  refine At.region_end [0, 1, 4, 5, 6, 7, 8] [0] _ (st' := ⟨[(0, lv T_retraceref17_Act.enc p0), (1, i64 p1), (4, .ptr 0 0), (5, i64 (-1)), (6, i64 0), (7, i64 0), (8, i64 0)], [.dblk 41 (encL (eInt .i64) (List.replicate 2 (0 : Int)))]⟩) (tips := []) (by kernel_rfl) all0 (norm ?_)
  refine At.block ?_
  refine At.loop (fun s : (Int × Int × Int × Int) => F_retraceref17_bound_L4 p0 p1 s.1 s.2.1 s.2.2.1 s.2.2.2) (fun s : (Int × Int × Int × Int) => ⟨[(0, lv T_retraceref17_Act.enc p0), (1, i64 p1), (4, .ptr 0 0), (5, i64 s.1), (6, i64 s.2.1), (7, i64 s.2.2.1), (8, i64 s.2.2.2)], [.dblk 41 (encL (eInt .i64) (List.replicate 2 (0 : Int)))]⟩) r ((-1), 0, 0, 0) h ?_
  rintro ⟨x48, x49, x50, x51⟩ oo52 h f53
  replace h : F_retraceref17_bound_L4 p0 p1 x48 x49 x50 x51 = some oo52 := h
  rw [F_retraceref17_bound_L4] at h
  refine At.seq ?_
  refine At.seq ?_
  refine At.region_end [0, 1, 4, 5, 6, 7, 8, 12] [0] _ (st' := ⟨[(0, lv T_retraceref17_Act.enc p0), (1, i64 p1), (4, .ptr 0 0), (5, i64 x48), (6, i64 x49), (7, i64 x50), (8, i64 x51), (12, bo (decide (x51 < ((p0).length : Int))))], [.dblk 41 (encL (eInt .i64) (List.replicate 2 (0 : Int)))]⟩) (tips := []) (by kernel_rfl) all0 (norm ?_)
  refine At.cond (decide (x51 < ((p0).length : Int))) (by kernel_rfl) (fun b55 => ?_) (fun b55 => ?_)
  · replace h := cond_t b55 h
    refine At.nar [0, 1, 4, 5, 6, 7, 8] [0] (st' := ⟨[(0, lv T_retraceref17_Act.enc p0), (1, i64 p1), (4, .ptr 0 0), (5, i64 x48), (6, i64 x49), (7, i64 x50), (8, i64 x51)], [.dblk 41 (encL (eInt .i64) (List.replicate 2 (0 : Int)))]⟩) (by kernel_rfl) ?_
    refine At.skip (norm ?_)
    refine At.seqJ (S := Int × Int × Int) (fun s => ⟨[(0, lv T_retraceref17_Act.enc p0), (1, i64 p1), (4, .ptr 0 0), (5, i64 s.1), (6, i64 s.2.1), (7, i64 s.2.2), (8, i64 x51)], [.dblk 41 (encL (eInt .i64) (List.replicate 2 (0 : Int)))]⟩) (fun s => F_retraceref17_bound_J1 x51 s.1 s.2.1 s.2.2 = some oo52) ?_ ?_
    · refine At.block ?_
      refine At.seq ?_
      obtain ⟨y77, hy77, h⟩ := bind_some h
      refine At.region_end [0, 1, 4, 5, 6, 7, 8, 19] [0] _ (st' := ⟨[(0, lv T_retraceref17_Act.enc p0), (1, i64 p1), (4, .ptr 0 0), (5, i64 x48), (6, i64 x49), (7, i64 x50), (8, i64 x51), (19, i64 y77.Kind)], [.dblk 41 (encL (eInt .i64) (List.replicate 2 (0 : Int)))]⟩) (tips := [(2, { orc := .cells (T_retraceref17_Act.enc y77) })]) (by kernel_rfl) (allc (elemAt_of T_retraceref17_Act.enc_len hy77) all0) (norm ?_)
      refine At.block ?_
      refine At.seqJ (S := Bool) (fun s => ⟨[(0, lv T_retraceref17_Act.enc p0), (1, i64 p1), (4, .ptr 0 0), (5, i64 x48), (6, i64 x49), (7, i64 x50), (8, i64 x51), (19, i64 y77.Kind), (41, bo s)], [.dblk 41 (encL (eInt .i64) (List.replicate 2 (0 : Int)))]⟩) (fun s => F_retraceref17_bound_J2 p0 p1 x48 x49 x50 x51 y77 s = some oo52) ?_ ?_
      · refine At.seq ?_
        refine At.region_end [0, 1, 4, 5, 6, 7, 8, 19, 41] [0] _ (st' := ⟨[(0, lv T_retraceref17_Act.enc p0), (1, i64 p1), (4, .ptr 0 0), (5, i64 x48), (6, i64 x49), (7, i64 x50), (8, i64 x51), (19, i64 y77.Kind), (41, bo (y77.Kind == 0))], [.dblk 41 (encL (eInt .i64) (List.replicate 2 (0 : Int)))]⟩) (tips := []) (by kernel_rfl) all0 (norm ?_)
        refine At.cond (y77.Kind == 0) (by kernel_rfl) (fun b92 => ?_) (fun b92 => ?_)
        · replace h := cond_t b92 h
          refine At.skip (fun a w hs => ⟨(y77.Kind == 0), h, hs⟩)
        · replace h := cond_f b92 h
          refine At.region_end [0, 1, 4, 5, 6, 7, 8, 19, 41] [0] _ (st' := ⟨[(0, lv T_retraceref17_Act.enc p0), (1, i64 p1), (4, .ptr 0 0), (5, i64 x48), (6, i64 x49), (7, i64 x50), (8, i64 x51), (19, i64 y77.Kind), (41, bo (y77.Kind == 2))], [.dblk 41 (encL (eInt .i64) (List.replicate 2 (0 : Int)))]⟩) (tips := []) (by kernel_rfl) all0 (fun a w hs => ⟨(y77.Kind == 2), h, hs⟩)
      · intro x79 h
        replace h : F_retraceref17_bound_J2 p0 p1 x48 x49 x50 x51 y77 x79 = some oo52 := h
        rw [F_retraceref17_bound_J2] at h
        refine At.cond x79 (by kernel_rfl) (fun b80 => ?_) (fun b80 => ?_)
        · replace h := cond_t b80 h
          refine At.region_end [0, 1, 4, 5, 6, 7, 8] [0] _ (st' := ⟨[(0, lv T_retraceref17_Act.enc p0), (1, i64 p1), (4, .ptr 0 0), (5, i64 x48), (6, i64 x49), (7, i64 (w64 (x50 + 1))), (8, i64 x51)], [.dblk 41 (encL (eInt .i64) (List.replicate 2 (0 : Int)))]⟩) (tips := []) (by kernel_rfl) all0 (fun a w hs => ⟨(x48, x49, (w64 (x50 + 1))), h, hs⟩)
        · replace h := cond_f b80 h
          refine At.seq ?_
          refine At.region_end [0, 1, 4, 5, 6, 7, 8, 46] [0] _ (st' := ⟨[(0, lv T_retraceref17_Act.enc p0), (1, i64 p1), (4, .ptr 0 0), (5, i64 x48), (6, i64 x49), (7, i64 x50), (8, i64 x51), (46, bo (y77.Kind == 1))], [.dblk 41 (encL (eInt .i64) (List.replicate 2 (0 : Int)))]⟩) (tips := []) (by kernel_rfl) all0 (norm ?_)
          refine At.cond (y77.Kind == 1) (by kernel_rfl) (fun b81 => ?_) (fun b81 => ?_)
          · replace h := cond_t b81 h
            refine At.region_end [0, 1, 4, 5, 6, 7, 8] [0] _ (st' := ⟨[(0, lv T_retraceref17_Act.enc p0), (1, i64 p1), (4, .ptr 0 0), (5, i64 x48), (6, i64 (w64 (x49 + 1))), (7, i64 x50), (8, i64 x51)], [.dblk 41 (encL (eInt .i64) (List.replicate 2 (0 : Int)))]⟩) (tips := []) (by kernel_rfl) all0 (fun a w hs => ⟨(x48, (w64 (x49 + 1)), x50), h, hs⟩)
          · replace h := cond_f b81 h
            refine At.seqJ (S := Bool) (fun s => ⟨[(0, lv T_retraceref17_Act.enc p0), (1, i64 p1), (4, .ptr 0 0), (5, i64 x48), (6, i64 x49), (7, i64 x50), (8, i64 x51), (39, bo s)], [.dblk 41 (encL (eInt .i64) (List.replicate 2 (0 : Int)))]⟩) (fun s => F_retraceref17_bound_J3 x48 x49 x50 x51 s = some oo52) ?_ ?_
            · obtain ⟨y88, hy88, h⟩ := bind_some h
              rcases tf (y88.Label == p1) with b89 | b89
              · replace h := cond_t b89 h
                rcases tf (decide (1 ≤ p1)) with b90 | b90
                · replace h := cond_t b90 h
                  rcases tf (decide (p1 ≤ x49)) with b91 | b91
                  · replace h := cond_t b91 h
                    refine At.region_end [0, 1, 4, 5, 6, 7, 8, 39] [0] _ (st' := ⟨[(0, lv T_retraceref17_Act.enc p0), (1, i64 p1), (4, .ptr 0 0), (5, i64 x48), (6, i64 x49), (7, i64 x50), (8, i64 x51), (39, bo (decide (x48 < 0)))], [.dblk 41 (encL (eInt .i64) (List.replicate 2 (0 : Int)))]⟩) (tips := [(2, { orc := .cells (T_retraceref17_Act.enc y88) }), (7, { orc := .val (.bool true) }), (11, { orc := .val (.bool true) }), (16, { orc := .val (.bool true) })]) (by kernel_rfl) (allc (elemAt_of T_retraceref17_Act.enc_len hy88) (allc (congrArg D.bool b89) (allc (congrArg D.bool b90) (allc (congrArg D.bool b91) all0)))) (fun a w hs => ⟨(decide (x48 < 0)), h, hs⟩)
                  · replace h := cond_f b91 h
                    refine At.region_end [0, 1, 4, 5, 6, 7, 8, 39] [0] _ (st' := ⟨[(0, lv T_retraceref17_Act.enc p0), (1, i64 p1), (4, .ptr 0 0), (5, i64 x48), (6, i64 x49), (7, i64 x50), (8, i64 x51), (39, bo false)], [.dblk 41 (encL (eInt .i64) (List.replicate 2 (0 : Int)))]⟩) (tips := [(2, { orc := .cells (T_retraceref17_Act.enc y88) }), (7, { orc := .val (.bool true) }), (11, { orc := .val (.bool true) }), (16, { orc := .val (.bool false) })]) (by kernel_rfl) (allc (elemAt_of T_retraceref17_Act.enc_len hy88) (allc (congrArg D.bool b89) (allc (congrArg D.bool b90) (allc (congrArg D.bool b91) all0)))) (fun a w hs => ⟨false, h, hs⟩)
                · replace h := cond_f b90 h
                  refine At.region_end [0, 1, 4, 5, 6, 7, 8, 39] [0] _ (st' := ⟨[(0, lv T_retraceref17_Act.enc p0), (1, i64 p1), (4, .ptr 0 0), (5, i64 x48), (6, i64 x49), (7, i64 x50), (8, i64 x51), (39, bo false)], [.dblk 41 (encL (eInt .i64) (List.replicate 2 (0 : Int)))]⟩) (tips := [(2, { orc := .cells (T_retraceref17_Act.enc y88) }), (7, { orc := .val (.bool true) }), (11, { orc := .val (.bool false) })]) (by kernel_rfl) (allc (elemAt_of T_retraceref17_Act.enc_len hy88) (allc (congrArg D.bool b89) (allc (congrArg D.bool b90) all0))) (fun a w hs => ⟨false, h, hs⟩)
              · replace h := cond_f b89 h
                refine At.region_end [0, 1, 4, 5, 6, 7, 8, 39] [0] _ (st' := ⟨[(0, lv T_retraceref17_Act.enc p0), (1, i64 p1), (4, .ptr 0 0), (5, i64 x48), (6, i64 x49), (7, i64 x50), (8, i64 x51), (39, bo false)], [.dblk 41 (encL (eInt .i64) (List.replicate 2 (0 : Int)))]⟩) (tips := [(2, { orc := .cells (T_retraceref17_Act.enc y88) }), (7, { orc := .val (.bool false) })]) (by kernel_rfl) (allc (elemAt_of T_retraceref17_Act.enc_len hy88) (allc (congrArg D.bool b89) all0)) (fun a w hs => ⟨false, h, hs⟩)
            · intro x86 h
              replace h : F_retraceref17_bound_J3 x48 x49 x50 x51 x86 = some oo52 := h
              rw [F_retraceref17_bound_J3] at h
              refine At.cond x86 (by kernel_rfl) (fun b87 => ?_) (fun b87 => ?_)
              · replace h := cond_t b87 h
                refine At.region_end [0, 1, 4, 5, 6, 7, 8] [0] _ (st' := ⟨[(0, lv T_retraceref17_Act.enc p0), (1, i64 p1), (4, .ptr 0 0), (5, i64 x50), (6, i64 x49), (7, i64 x50), (8, i64 x51)], [.dblk 41 (encL (eInt .i64) (List.replicate 2 (0 : Int)))]⟩) (tips := []) (by kernel_rfl) all0 (fun a w hs => ⟨(x50, x49, x50), h, hs⟩)
              · replace h := cond_f b87 h
                refine At.nar [0, 1, 4, 5, 6, 7, 8] [0] (st' := ⟨[(0, lv T_retraceref17_Act.enc p0), (1, i64 p1), (4, .ptr 0 0), (5, i64 x48), (6, i64 x49), (7, i64 x50), (8, i64 x51)], [.dblk 41 (encL (eInt .i64) (List.replicate 2 (0 : Int)))]⟩) (by kernel_rfl) ?_
                refine At.skip (fun a w hs => ⟨(x48, x49, x50), h, hs⟩)
    · rintro ⟨x73, x74, x75⟩ h
      replace h : F_retraceref17_bound_J1 x51 x73 x74 x75 = some oo52 := h
      rw [F_retraceref17_bound_J1] at h
      refine At.region_end [0, 1, 4, 5, 6, 7, 8] [0] _ (st' := ⟨[(0, lv T_retraceref17_Act.enc p0), (1, i64 p1), (4, .ptr 0 0), (5, i64 x73), (6, i64 x74), (7, i64 x75), (8, i64 (w64 (x51 + 1)))], [.dblk 41 (encL (eInt .i64) (List.replicate 2 (0 : Int)))]⟩) (tips := []) (by kernel_rfl) all0 (fun a w hs => ⟨_, (some_eq h).symm, hs⟩)
  · replace h := cond_f b55 h
    refine At.nar [4, 5, 6] [0] (st' := ⟨[(4, .ptr 0 0), (5, i64 x48), (6, i64 x49)], [.dblk 41 (encL (eInt .i64) (List.replicate 2 (0 : Int)))]⟩) (by kernel_rfl) ?_
    obtain ⟨r93, h, e94⟩ := map_inr h
    rw [f53 _ e94] at h
    refine At.exit (norm ?_)
    refine At.seq ?_
    obtain ⟨g96, h⟩ := grd_some h
    refine At.region_end [4] [0] _ (st' := ⟨[(4, .ptr 0 0)], [.dblk 41 (encL (eInt .i64) ([x48, x49] : List Int))]⟩) (tips := []) (by kernel_rfl) (allc (lenN (he_int .i64) ([x48, x49] : List Int) g96.1) (allc (lenN (he_int .i64) (List.replicate 2 (0 : Int)) g96.2) all0)) (norm ?_)
    obtain ⟨g97, h⟩ := grd_some h
    obtain rfl := some_eq h
    exact At.ret fun a w hs => ret_ok hR (ρ := []) (gs := []) (by kernel_rfl) (allc (lenN (he_int .i64) ([x48, x49] : List Int) g97) all0) (by kernel_rfl) rfl rfl a w hs _ (.inl rfl)
set_option maxRecDepth 100000 in
theorem C_retraceref17_Counts (p0 : (List T_retraceref17_Act)) (r : (List Int)) (h : F_retraceref17_Counts p0 = some r) : FnOK Try.prog 18 [lv T_retraceref17_Act.enc p0] [] (.dagg (encL (eInt .i64) r)) [] [] := by
  rw [F_retraceref17_Counts] at h
  refine FnOK.intro Try.func18 rfl (by kernel_rfl) (by kernel_rfl) fun E gv R hR => ?_
  refine At.seq ?_
  refine At.region_end [0, 2] [0] _ (st' := ⟨[(0, lv T_retraceref17_Act.enc p0), (2, .ptr 0 0)], [.dblk 41 (encL (eInt .i64) (List.replicate 2 (0 : Int)))]⟩) (tips := []) (by kernel_rfl) all0 (norm ?_)
  refine At.seq ?_
  refine At.region_end [0, 2, 3] [0] _ (st' := ⟨[(0, lv T_retraceref17_Act.enc p0), (2, .ptr 0 0), (3, i64 0)], [.dblk 41 (encL (eInt .i64) (List.replicate 2 (0 : Int)))]⟩) (tips := []) (by kernel_rfl) all0 (norm ?_)
  refine At.seq ?_
  refine At.seq ?_
  refine At.region_end [0, 2, 3, 4] [0] _ (st' := ⟨[(0, lv T_retraceref17_Act.enc p0), (2, .ptr 0 0), (3, i64 0), (4, i64 0)], [.dblk 41 (encL (eInt .i64) (List.replicate 2 (0 : Int)))]⟩) (tips := []) (by kernel_rfl) all0 (norm ?_)
  refine At.block ?_
  refine At.loop (fun s : (Int × Int) => F_retraceref17_Counts_L3 p0 s.1 s.2) (fun s : (Int × Int) => ⟨[(0, lv T_retraceref17_Act.enc p0), (2, .ptr 0 0), (3, i64 s.1), (4, i64 s.2)], [.dblk 41 (encL (eInt .i64) (List.replicate 2 (0 : Int)))]⟩) r (0, 0) h ?_
  rintro ⟨x26, x27⟩ oo28 h f29
  replace h : F_retraceref17_Counts_L3 p0 x26 x27 = some oo28 := h
  rw [F_retraceref17_Counts_L3] at h
  refine At.seq ?_
  refine At.seq ?_
  refine At.region_end [0, 2, 3, 4, 8] [0] _ (st' := ⟨[(0, lv T_retraceref17_Act.enc p0), (2, .ptr 0 0), (3, i64 x26), (4, i64 x27), (8, bo (decide (x27 < ((p0).length : Int))))], [.dblk 41 (encL (eInt .i64) (List.replicate 2 (0 : Int)))]⟩) (tips := []) (by kernel_rfl) all0 (norm ?_)
  refine At.cond (decide (x27 < ((p0).length : Int))) (by kernel_rfl) (fun b31 => ?_) (fun b31 => ?_)
  · replace h := cond_t b31 h
    refine At.nar [0, 2, 3, 4] [0] (st' := ⟨[(0, lv T_retraceref17_Act.enc p0), (2, .ptr 0 0), (3, i64 x26), (4, i64 x27)], [.dblk 41 (encL (eInt .i64) (List.replicate 2 (0 : Int)))]⟩) (by kernel_rfl) ?_
    refine At.skip (norm ?_)
    refine At.seqJ (S := Int) (fun s => ⟨[(0, lv T_retraceref17_Act.enc p0), (2, .ptr 0 0), (3, i64 s), (4, i64 x27)], [.dblk 41 (encL (eInt .i64) (List.replicate 2 (0 : Int)))]⟩) (fun s => F_retraceref17_Counts_J1 x27 s = some oo28) ?_ ?_
    · refine At.block ?_
      refine At.seqJ (S := Bool) (fun s => ⟨[(0, lv T_retraceref17_Act.enc p0), (2, .ptr 0 0), (3, i64 x26), (4, i64 x27), (24, bo s)], [.dblk 41 (encL (eInt .i64) (List.replicate 2 (0 : Int)))]⟩) (fun s => F_retraceref17_Counts_J2 x26 x27 s = some oo28) ?_ ?_
      · obtain ⟨y46, hy46, h⟩ := bind_some h
        rcases tf (y46.Kind == 0) with b47 | b47
        · replace h := cond_t b47 h
          refine At.region_end [0, 2, 3, 4, 24] [0] _ (st' := ⟨[(0, lv T_retraceref17_Act.enc p0), (2, .ptr 0 0), (3, i64 x26), (4, i64 x27), (24, bo true)], [.dblk 41 (encL (eInt .i64) (List.replicate 2 (0 : Int)))]⟩) (tips := [(2, { orc := .cells (T_retraceref17_Act.enc y46) }), (6, { orc := .val (.bool true) })]) (by kernel_rfl) (allc (elemAt_of T_retraceref17_Act.enc_len hy46) (allc (congrArg D.bool b47) all0)) (fun a w hs => ⟨true, h, hs⟩)
        · replace h := cond_f b47 h
          obtain ⟨y48, hy48, h⟩ := bind_some h
          refine At.region_end [0, 2, 3, 4, 24] [0] _ (st' := ⟨[(0, lv T_retraceref17_Act.enc p0), (2, .ptr 0 0), (3, i64 x26), (4, i64 x27), (24, bo (y48.Kind == 2))], [.dblk 41 (encL (eInt .i64) (List.replicate 2 (0 : Int)))]⟩) (tips := [(2, { orc := .cells (T_retraceref17_Act.enc y46) }), (6, { orc := .val (.bool false) }), (9, { orc := .cells (T_retraceref17_Act.enc y48) })]) (by kernel_rfl) (allc (elemAt_of T_retraceref17_Act.enc_len hy46) (allc (congrArg D.bool b47) (allc (elemAt_of T_retraceref17_Act.enc_len hy48) all0))) (fun a w hs => ⟨(y48.Kind == 2), h, hs⟩)
      · intro x44 h
        replace h : F_retraceref17_Counts_J2 x26 x27 x44 = some oo28 := h
        rw [F_retraceref17_Counts_J2] at h
        refine At.cond x44 (by kernel_rfl) (fun b45 => ?_) (fun b45 => ?_)
        · replace h := cond_t b45 h
          refine At.region_end [0, 2, 3, 4] [0] _ (st' := ⟨[(0, lv T_retraceref17_Act.enc p0), (2, .ptr 0 0), (3, i64 (w64 (x26 + 1))), (4, i64 x27)], [.dblk 41 (encL (eInt .i64) (List.replicate 2 (0 : Int)))]⟩) (tips := []) (by kernel_rfl) all0 (fun a w hs => ⟨(w64 (x26 + 1)), h, hs⟩)
        · replace h := cond_f b45 h
          refine At.nar [0, 2, 3, 4] [0] (st' := ⟨[(0, lv T_retraceref17_Act.enc p0), (2, .ptr 0 0), (3, i64 x26), (4, i64 x27)], [.dblk 41 (encL (eInt .i64) (List.replicate 2 (0 : Int)))]⟩) (by kernel_rfl) ?_
          refine At.skip (fun a w hs => ⟨x26, h, hs⟩)
    · intro x40 h
      replace h : F_retraceref17_Counts_J1 x27 x40 = some oo28 := h
      rw [F_retraceref17_Counts_J1] at h
      refine At.region_end [0, 2, 3, 4] [0] _ (st' := ⟨[(0, lv T_retraceref17_Act.enc p0), (2, .ptr 0 0), (3, i64 x40), (4, i64 (w64 (x27 + 1)))], [.dblk 41 (encL (eInt .i64) (List.replicate 2 (0 : Int)))]⟩) (tips := []) (by kernel_rfl) all0 (fun a w hs => ⟨_, (some_eq h).symm, hs⟩)
  · replace h := cond_f b31 h
    refine At.nar [0, 2, 3] [0] (st' := ⟨[(0, lv T_retraceref17_Act.enc p0), (2, .ptr 0 0), (3, i64 x26)], [.dblk 41 (encL (eInt .i64) (List.replicate 2 (0 : Int)))]⟩) (by kernel_rfl) ?_
    obtain ⟨r49, h, e50⟩ := map_inr h
    rw [f29 _ e50] at h
    refine At.exit (norm ?_)
    refine At.seq ?_
    obtain ⟨y54, hy54, h⟩ := bind_some h
    obtain ⟨y55, hy55, h⟩ := bind_some h
    obtain ⟨g56, h⟩ := grd_some h
    refine At.region_end [2] [0] _ (st' := ⟨[(2, .ptr 0 0)], [.dblk 41 (encL (eInt .i64) ([x26, y55] : List Int))]⟩) (tips := [(2, { pc := some { ρ := [], n0 := 0, res := .dagg (encL (eInt .i64) y54), σ' := [], e := [] } }), (3, { orc := .val (.int .i64 y55) })]) (by kernel_rfl) (allc (C_retraceref17_bound p0 0 y54 hy54) (allc ((aIx_of (he_int .i64) (d := .int .i64 y55) hy55 rfl).1) (allc ((aIx_of (he_int .i64) (d := .int .i64 y55) hy55 rfl).2) (allc (lenN (he_int .i64) ([x26, y55] : List Int) g56.1) (allc (lenN (he_int .i64) (List.replicate 2 (0 : Int)) g56.2) all0))))) (norm ?_)
    obtain ⟨g57, h⟩ := grd_some h
    obtain rfl := some_eq h
    exact At.ret fun a w hs => ret_ok hR (ρ := []) (gs := []) (by kernel_rfl) (allc (lenN (he_int .i64) ([x26, y55] : List Int) g57) all0) (by kernel_rfl) rfl rfl a w hs _ (.inl rfl)
set_option maxRecDepth 100000 in
theorem C_retraceref17_Bind (p0 : (List T_retraceref17_Act)) (p1 : Int) (r : Int) (h : F_retraceref17_Bind p0 p1 = some r) : FnOK Try.prog 23 [lv T_retraceref17_Act.enc p0, i64 p1] [] (i64 r) [] [] := by
  rw [F_retraceref17_Bind] at h
  refine FnOK.intro Try.func23 rfl (by kernel_rfl) (by kernel_rfl) fun E gv R hR => ?_
  refine At.seq ?_
  refine At.region_end [0, 1] [] _ (st' := ⟨[(0, lv T_retraceref17_Act.enc p0), (1, i64 p1)], []⟩) (tips := []) (by kernel_rfl) all0 (norm ?_)
  refine At.seq ?_
  obtain ⟨y3, hy3, h⟩ := bind_some h
  obtain ⟨g4, h⟩ := grd_some h
  refine At.region_end [1, 5] [0] _ (st' := ⟨[(1, i64 p1), (5, .ptr 0 0)], [.dblk 41 (encL (eInt .i64) y3)]⟩) (tips := [(2, { pc := some { ρ := [], n0 := 0, res := .dagg (encL (eInt .i64) y3), σ' := [], e := [] } })]) (by kernel_rfl) (allc (C_retraceref17_bound p0 p1 y3 hy3) (allc (lenN (he_int .i64) y3 g4.1) (allc (lenN (he_int .i64) (List.replicate 2 (0 : Int)) g4.2) all0))) (norm ?_)
  refine At.seq ?_
  refine At.seqJ (S := Bool) (fun s => ⟨[(5, .ptr 0 0), (16, bo s)], [.dblk 41 (encL (eInt .i64) y3)]⟩) (fun s => F_retraceref17_Bind_J1 y3 s = some r) ?_ ?_
  · rcases tf (decide (p1 < 1)) with b21 | b21
    · replace h := cond_t b21 h
      refine At.region_end [5, 16] [0] _ (st' := ⟨[(5, .ptr 0 0), (16, bo true)], [.dblk 41 (encL (eInt .i64) y3)]⟩) (tips := [(2, { orc := .val (.bool true) })]) (by kernel_rfl) (allc (congrArg D.bool b21) all0) (fun a w hs => ⟨true, h, hs⟩)
    · replace h := cond_f b21 h
      obtain ⟨y22, hy22, h⟩ := bind_some h
      refine At.region_end [5, 16] [0] _ (st' := ⟨[(5, .ptr 0 0), (16, bo (decide (y22 < p1)))], [.dblk 41 (encL (eInt .i64) y3)]⟩) (tips := [(2, { orc := .val (.bool false) }), (5, { orc := .val (.int .i64 y22) })]) (by kernel_rfl) (allc (congrArg D.bool b21) (allc ((aAt_of (he_int .i64) (d := .int .i64 y22) hy22 rfl).1) (allc ((aAt_of (he_int .i64) (d := .int .i64 y22) hy22 rfl).2) all0))) (fun a w hs => ⟨(decide (y22 < p1)), h, hs⟩)
  · intro x13 h
    replace h : F_retraceref17_Bind_J1 y3 x13 = some r := h
    rw [F_retraceref17_Bind_J1] at h
    refine At.cond x13 (by kernel_rfl) (fun b14 => ?_) (fun b14 => ?_)
    · replace h := cond_t b14 h
      refine At.seq ?_
      refine At.region_end [4] [] _ (st' := ⟨[(4, i64 1)], []⟩) (tips := []) (by kernel_rfl) all0 (norm ?_)
      obtain rfl := some_eq h
      exact At.ret fun a w hs => ret_ok hR (ρ := []) (gs := []) (by kernel_rfl) all0 (by kernel_rfl) rfl rfl a w hs _ (.inl rfl)
    · replace h := cond_f b14 h
      refine At.nar [5] [0] (st' := ⟨[(5, .ptr 0 0)], [.dblk 41 (encL (eInt .i64) y3)]⟩) (by kernel_rfl) ?_
      refine At.skip (norm ?_)
      refine At.seq ?_
      refine At.seq ?_
      obtain ⟨y19, hy19, h⟩ := bind_some h
      refine At.region_end [19] [] _ (st' := ⟨[(19, bo (decide (0 ≤ y19)))], []⟩) (tips := [(1, { orc := .val (.int .i64 y19) })]) (by kernel_rfl) (allc ((aAt_of (he_int .i64) (d := .int .i64 y19) hy19 rfl).1) (allc ((aAt_of (he_int .i64) (d := .int .i64 y19) hy19 rfl).2) all0)) (norm ?_)
      refine At.cond (decide (0 ≤ y19)) (by kernel_rfl) (fun b20 => ?_) (fun b20 => ?_)
      · replace h := cond_t b20 h
        refine At.seq ?_
        refine At.region_end [4] [] _ (st' := ⟨[(4, i64 8)], []⟩) (tips := []) (by kernel_rfl) all0 (norm ?_)
        obtain rfl := some_eq h
        exact At.ret fun a w hs => ret_ok hR (ρ := []) (gs := []) (by kernel_rfl) all0 (by kernel_rfl) rfl rfl a w hs _ (.inl rfl)
      · replace h := cond_f b20 h
        refine At.nar [] [] (st' := ⟨[], []⟩) (by kernel_rfl) ?_
        refine At.skip (norm ?_)
        refine At.seq ?_
        refine At.region_end [4] [] _ (st' := ⟨[(4, i64 0)], []⟩) (tips := []) (by kernel_rfl) all0 (norm ?_)
        obtain rfl := some_eq h
        exact At.ret fun a w hs => ret_ok hR (ρ := []) (gs := []) (by kernel_rfl) all0 (by kernel_rfl) rfl rfl a w hs _ (.inl rfl)
set_option maxRecDepth 100000 in
theorem C_retraceref17_Which (p0 : Int) (r : Int) (h : F_retraceref17_Which p0 = some r) : FnOK Try.prog 30 [i64 p0] [] (i64 r) [] [] := by
  rw [F_retraceref17_Which] at h
  refine FnOK.intro Try.func30 rfl (by kernel_rfl) (by kernel_rfl) fun E gv R hR => ?_
  refine At.seq ?_
  refine At.region_end [0] [] _ (st' := ⟨[(0, i64 p0)], []⟩) (tips := []) (by kernel_rfl) all0 (norm ?_)
  refine At.seq ?_
  refine At.seq ?_
  refine At.region_end [0, 4] [] _ (st' := ⟨[(0, i64 p0), (4, bo (p0 == 19))], []⟩) (tips := []) (by kernel_rfl) all0 (norm ?_)
  refine At.cond (p0 == 19) (by kernel_rfl) (fun b2 => ?_) (fun b2 => ?_)
  · replace h := cond_t b2 h
    refine At.seq ?_
    refine At.region_end [2] [] _ (st' := ⟨[(2, i64 2)], []⟩) (tips := []) (by kernel_rfl) all0 (norm ?_)
    obtain rfl := some_eq h
    exact At.ret fun a w hs => ret_ok hR (ρ := []) (gs := []) (by kernel_rfl) all0 (by kernel_rfl) rfl rfl a w hs _ (.inl rfl)
  · replace h := cond_f b2 h
    refine At.nar [0] [] (st' := ⟨[(0, i64 p0)], []⟩) (by kernel_rfl) ?_
    refine At.skip (norm ?_)
    refine At.seq ?_
    refine At.seqJ (S := Bool) (fun s => ⟨[(26, bo s)], []⟩) (fun s => F_retraceref17_Which_J1 s = some r) ?_ ?_
    · rcases tf (p0 == 6) with b22 | b22
      · replace h := cond_t b22 h
        refine At.region_end [26] [] _ (st' := ⟨[(26, bo true)], []⟩) (tips := [(2, { orc := .val (.bool true) })]) (by kernel_rfl) (allc (congrArg D.bool b22) all0) (fun a w hs => ⟨true, h, hs⟩)
      · replace h := cond_f b22 h
        rcases tf (p0 == 7) with b23 | b23
        · replace h := cond_t b23 h
          refine At.region_end [26] [] _ (st' := ⟨[(26, bo true)], []⟩) (tips := [(2, { orc := .val (.bool false) }), (6, { orc := .val (.bool true) })]) (by kernel_rfl) (allc (congrArg D.bool b22) (allc (congrArg D.bool b23) all0)) (fun a w hs => ⟨true, h, hs⟩)
        · replace h := cond_f b23 h
          rcases tf (p0 == 8) with b24 | b24
          · replace h := cond_t b24 h
            refine At.region_end [26] [] _ (st' := ⟨[(26, bo true)], []⟩) (tips := [(2, { orc := .val (.bool false) }), (6, { orc := .val (.bool false) }), (10, { orc := .val (.bool true) })]) (by kernel_rfl) (allc (congrArg D.bool b22) (allc (congrArg D.bool b23) (allc (congrArg D.bool b24) all0))) (fun a w hs => ⟨true, h, hs⟩)
          · replace h := cond_f b24 h
            rcases tf (p0 == 20) with b25 | b25
            · replace h := cond_t b25 h
              refine At.region_end [26] [] _ (st' := ⟨[(26, bo true)], []⟩) (tips := [(2, { orc := .val (.bool false) }), (6, { orc := .val (.bool false) }), (10, { orc := .val (.bool false) }), (14, { orc := .val (.bool true) })]) (by kernel_rfl) (allc (congrArg D.bool b22) (allc (congrArg D.bool b23) (allc (congrArg D.bool b24) (allc (congrArg D.bool b25) all0)))) (fun a w hs => ⟨true, h, hs⟩)
            · replace h := cond_f b25 h
              rcases tf (p0 == 21) with b26 | b26
              · replace h := cond_t b26 h
                refine At.region_end [26] [] _ (st' := ⟨[(26, bo true)], []⟩) (tips := [(2, { orc := .val (.bool false) }), (6, { orc := .val (.bool false) }), (10, { orc := .val (.bool false) }), (14, { orc := .val (.bool false) }), (18, { orc := .val (.bool true) })]) (by kernel_rfl) (allc (congrArg D.bool b22) (allc (congrArg D.bool b23) (allc (congrArg D.bool b24) (allc (congrArg D.bool b25) (allc (congrArg D.bool b26) all0))))) (fun a w hs => ⟨true, h, hs⟩)
              · replace h := cond_f b26 h
                refine At.region_end [26] [] _ (st' := ⟨[(26, bo (p0 == 22))], []⟩) (tips := [(2, { orc := .val (.bool false) }), (6, { orc := .val (.bool false) }), (10, { orc := .val (.bool false) }), (14, { orc := .val (.bool false) }), (18, { orc := .val (.bool false) })]) (by kernel_rfl) (allc (congrArg D.bool b22) (allc (congrArg D.bool b23) (allc (congrArg D.bool b24) (allc (congrArg D.bool b25) (allc (congrArg D.bool b26) all0))))) (fun a w hs => ⟨(p0 == 22), h, hs⟩)
    · intro x20 h
      replace h : F_retraceref17_Which_J1 x20 = some r := h
      rw [F_retraceref17_Which_J1] at h
      refine At.cond x20 (by kernel_rfl) (fun b21 => ?_) (fun b21 => ?_)
      · replace h := cond_t b21 h
        refine At.seq ?_
        refine At.region_end [2] [] _ (st' := ⟨[(2, i64 1)], []⟩) (tips := []) (by kernel_rfl) all0 (norm ?_)
        obtain rfl := some_eq h
        exact At.ret fun a w hs => ret_ok hR (ρ := []) (gs := []) (by kernel_rfl) all0 (by kernel_rfl) rfl rfl a w hs _ (.inl rfl)
      · replace h := cond_f b21 h
        refine At.nar [] [] (st' := ⟨[], []⟩) (by kernel_rfl) ?_
        refine At.skip (norm ?_)
        refine At.seq ?_
        refine At.region_end [2] [] _ (st' := ⟨[(2, i64 0)], []⟩) (tips := []) (by kernel_rfl) all0 (norm ?_)
        obtain rfl := some_eq h
        exact At.ret fun a w hs => ret_ok hR (ρ := []) (gs := []) (by kernel_rfl) all0 (by kernel_rfl) rfl rfl a w hs _ (.inl rfl)
set_option maxRecDepth 100000 in
theorem C_retraceref17_Aim (p0 : T_api_Ins) (p1 : Int) (r : T_api_Ins) (h : F_retraceref17_Aim p0 p1 = some r) : FnOK Try.prog 31 [.agg (T_api_Ins.pvs p0), i64 p1] [] (.agg (T_api_Ins.pvs r)) [] [] := by
  rw [F_retraceref17_Aim] at h
  refine FnOK.intro Try.func31 rfl (by kernel_rfl) (by kernel_rfl) fun E gv R hR => ?_
  refine At.seq ?_
  refine At.region_end [1, 2, 4] [0, 1] _ (st' := ⟨[(1, i64 p1), (2, .ptr 0 0), (4, .ptr 1 0)], [.blk 38 (T_api_Ins.pvs p0), .blk 38 [i64 0, i64 0, i64 0]]⟩) (tips := []) (by kernel_rfl) all0 (norm ?_)
  refine At.seqJ (S := Int × Int) (fun s => ⟨[(2, .ptr 0 0), (4, .ptr 1 0)], [.blk 38 [i64 p0.Op, i64 s.1, i64 s.2], .blk 38 [i64 0, i64 0, i64 0]]⟩) (fun s => F_retraceref17_Aim_J1 p0 s.1 s.2 = some r) ?_ ?_
  · refine At.seq ?_
    obtain ⟨y8, hy8, h⟩ := bind_some h
    refine At.region_end [1, 2, 4, 7] [0, 1] _ (st' := ⟨[(1, i64 p1), (2, .ptr 0 0), (4, .ptr 1 0), (7, i64 y8)], [.blk 38 (T_api_Ins.pvs p0), .blk 38 [i64 0, i64 0, i64 0]]⟩) (tips := [(2, { pc := some { ρ := [], n0 := 0, res := i64 y8, σ' := [], e := [] } })]) (by kernel_rfl) (allc (C_retraceref17_Which p0.Op y8 hy8) all0) (norm ?_)
    refine At.block ?_
    refine At.seq ?_
    refine At.region_end [1, 2, 4, 7, 8] [0, 1] _ (st' := ⟨[(1, i64 p1), (2, .ptr 0 0), (4, .ptr 1 0), (7, i64 y8), (8, bo (y8 == 1))], [.blk 38 (T_api_Ins.pvs p0), .blk 38 [i64 0, i64 0, i64 0]]⟩) (tips := []) (by kernel_rfl) all0 (norm ?_)
    refine At.cond (y8 == 1) (by kernel_rfl) (fun b9 => ?_) (fun b9 => ?_)
    · replace h := cond_t b9 h
      refine At.region_end [2, 4] [0, 1] _ (st' := ⟨[(2, .ptr 0 0), (4, .ptr 1 0)], [.blk 38 [i64 p0.Op, i64 p1, i64 p0.B], .blk 38 [i64 0, i64 0, i64 0]]⟩) (tips := []) (by kernel_rfl) all0 (fun a w hs => ⟨(p1, p0.B), h, hs⟩)
    · replace h := cond_f b9 h
      refine At.seq ?_
      refine At.region_end [1, 2, 4, 12] [0, 1] _ (st' := ⟨[(1, i64 p1), (2, .ptr 0 0), (4, .ptr 1 0), (12, bo (y8 == 2))], [.blk 38 (T_api_Ins.pvs p0), .blk 38 [i64 0, i64 0, i64 0]]⟩) (tips := []) (by kernel_rfl) all0 (norm ?_)
      refine At.cond (y8 == 2) (by kernel_rfl) (fun b10 => ?_) (fun b10 => ?_)
      · replace h := cond_t b10 h
        refine At.region_end [2, 4] [0, 1] _ (st' := ⟨[(2, .ptr 0 0), (4, .ptr 1 0)], [.blk 38 [i64 p0.Op, i64 p0.A, i64 p1], .blk 38 [i64 0, i64 0, i64 0]]⟩) (tips := []) (by kernel_rfl) all0 (fun a w hs => ⟨(p0.A, p1), h, hs⟩)
      · replace h := cond_f b10 h
        refine At.nar [2, 4] [0, 1] (st' := ⟨[(2, .ptr 0 0), (4, .ptr 1 0)], [.blk 38 (T_api_Ins.pvs p0), .blk 38 [i64 0, i64 0, i64 0]]⟩) (by kernel_rfl) ?_
        refine At.skip (fun a w hs => ⟨(p0.A, p0.B), h, hs⟩)
  · rintro ⟨x5, x6⟩ h
    replace h : F_retraceref17_Aim_J1 p0 x5 x6 = some r := h
    rw [F_retraceref17_Aim_J1] at h
    refine At.seq ?_
    refine At.region_end [4] [1] _ (st' := ⟨[(4, .ptr 0 0)], [.blk 38 [i64 p0.Op, i64 x5, i64 x6]]⟩) (tips := []) (by kernel_rfl) all0 (norm ?_)
    obtain rfl := some_eq h
    exact At.ret fun a w hs => ret_ok hR (ρ := []) (gs := []) (by kernel_rfl) all0 (by kernel_rfl) rfl rfl a w hs _ (.inl rfl)
set_option maxRecDepth 100000 in
theorem C_retraceref17_Done (p0 : (List T_retraceref17_Act)) (r : T_retraceref16_Got) (h : F_retraceref17_Done p0 = some r) : FnOK Try.prog 26 [lv T_retraceref17_Act.enc p0] [] (.agg (T_retraceref16_Got.pvs r)) [] [] := by
  rw [F_retraceref17_Done] at h
  refine FnOK.intro Try.func26 rfl (by kernel_rfl) (by kernel_rfl) fun E gv R hR => ?_
  refine At.seq ?_
  refine At.region_end [0, 2] [0] _ (st' := ⟨[(0, lv T_retraceref17_Act.enc p0), (2, .ptr 0 0)], [.blk 53 [.d (.list true 0 []), i64 0]]⟩) (tips := []) (by kernel_rfl) all0 (norm ?_)
  refine At.seq ?_
  refine At.region_end [0, 2, 3] [0, 1] _ (st' := ⟨[(0, lv T_retraceref17_Act.enc p0), (2, .ptr 0 0), (3, .ptr 1 0)], [.blk 53 [.d (.list true 0 []), i64 0], .blk 53 [.d (.list true 0 []), i64 0]]⟩) (tips := []) (by kernel_rfl) all0 (norm ?_)
  refine At.seq ?_
  refine At.seq ?_
  refine At.region_end [0, 2, 3, 4] [0, 1] _ (st' := ⟨[(0, lv T_retraceref17_Act.enc p0), (2, .ptr 0 0), (3, .ptr 1 0), (4, i64 0)], [.blk 53 [.d (.list true 0 []), i64 0], .blk 53 [.d (.list true 0 []), i64 0]]⟩) (tips := []) (by kernel_rfl) all0 (norm ?_)
  refine At.block ?_
  refine At.edNar [.ownO 1 0 38 3] [0, 2, 3, 4] [0, 1, 2] (st' := ⟨[(0, lv T_retraceref17_Act.enc p0), (2, .ptr 0 0), (3, .ptr 1 0), (4, i64 0)], [.blk 53 [.d (.list true 0 []), i64 0], .blk 53 [.row 2 ([] : List T_api_Ins).length, i64 0], .row 38 3 (encL T_api_Ins.enc ([]))]⟩) (by kernel_rfl) ?_
  refine At.loop (fun s : (Int × (List T_api_Ins)) => F_retraceref17_Done_L3 p0 s.1 s.2) (fun s : (Int × (List T_api_Ins)) => ⟨[(0, lv T_retraceref17_Act.enc p0), (2, .ptr 0 0), (3, .ptr 1 0), (4, i64 s.1)], [.blk 53 [.d (.list true 0 []), i64 0], .blk 53 [.row 2 (s.2).length, i64 0], .row 38 3 (encL T_api_Ins.enc s.2)]⟩) r (0, ([] : (List T_api_Ins))) h ?_
  rintro ⟨x98, x99⟩ oo100 h f101
  replace h : F_retraceref17_Done_L3 p0 x98 x99 = some oo100 := h
  rw [F_retraceref17_Done_L3] at h
  refine At.seq ?_
  refine At.seq ?_
  refine At.region_end [0, 2, 3, 4, 9] [0, 1, 2] _ (st' := ⟨[(0, lv T_retraceref17_Act.enc p0), (2, .ptr 0 0), (3, .ptr 1 0), (4, i64 x98), (9, bo (decide (x98 < ((p0).length : Int))))], [.blk 53 [.d (.list true 0 []), i64 0], .blk 53 [.row 2 (x99).length, i64 0], .row 38 3 (encL T_api_Ins.enc x99)]⟩) (tips := []) (by kernel_rfl) all0 (norm ?_)
  refine At.cond (decide (x98 < ((p0).length : Int))) (by kernel_rfl) (fun b103 => ?_) (fun b103 => ?_)
  · replace h := cond_t b103 h
    refine At.nar [0, 2, 3, 4] [0, 1, 2] (st' := ⟨[(0, lv T_retraceref17_Act.enc p0), (2, .ptr 0 0), (3, .ptr 1 0), (4, i64 x98)], [.blk 53 [.d (.list true 0 []), i64 0], .blk 53 [.row 2 (x99).length, i64 0], .row 38 3 (encL T_api_Ins.enc x99)]⟩) (by kernel_rfl) ?_
    refine At.skip (norm ?_)
    refine At.seqJ (S := (List T_api_Ins)) (fun s => ⟨[(0, lv T_retraceref17_Act.enc p0), (2, .ptr 0 0), (3, .ptr 1 0), (4, i64 x98)], [.blk 53 [.d (.list true 0 []), i64 0], .blk 53 [.row 2 (s).length, i64 0], .row 38 3 (encL T_api_Ins.enc s)]⟩) (fun s => F_retraceref17_Done_J1 x98 s = some oo100) ?_ ?_
    · refine At.block ?_
      refine At.seq ?_
      obtain ⟨y148, hy148, h⟩ := bind_some h
      refine At.region_end [0, 2, 3, 4, 16] [0, 1, 2] _ (st' := ⟨[(0, lv T_retraceref17_Act.enc p0), (2, .ptr 0 0), (3, .ptr 1 0), (4, i64 x98), (16, i64 y148.Kind)], [.blk 53 [.d (.list true 0 []), i64 0], .blk 53 [.row 2 (x99).length, i64 0], .row 38 3 (encL T_api_Ins.enc x99)]⟩) (tips := [(2, { orc := .cells (T_retraceref17_Act.enc y148) })]) (by kernel_rfl) (allc (elemAt_of T_retraceref17_Act.enc_len hy148) all0) (norm ?_)
      refine At.block ?_
      refine At.seq ?_
      refine At.region_end [0, 2, 3, 4, 16, 17] [0, 1, 2] _ (st' := ⟨[(0, lv T_retraceref17_Act.enc p0), (2, .ptr 0 0), (3, .ptr 1 0), (4, i64 x98), (16, i64 y148.Kind), (17, bo (y148.Kind == 0))], [.blk 53 [.d (.list true 0 []), i64 0], .blk 53 [.row 2 (x99).length, i64 0], .row 38 3 (encL T_api_Ins.enc x99)]⟩) (tips := []) (by kernel_rfl) all0 (norm ?_)
      refine At.cond (y148.Kind == 0) (by kernel_rfl) (fun b149 => ?_) (fun b149 => ?_)
      · replace h := cond_t b149 h
        obtain ⟨y150, hy150, h⟩ := bind_some h
        obtain ⟨g151, h⟩ := grd_some h
        refine At.draw_end mixedOrd 1 [0, 2, 3, 4] [0, 1, 2] _ (st' := ⟨[(0, lv T_retraceref17_Act.enc p0), (2, .ptr 0 0), (3, .ptr 1 0), (4, i64 x98)], [.blk 53 [.d (.list true 0 []), i64 0], .blk 53 [.row 2 ((x99 ++ [y150.X])).length, i64 0], .row 38 3 (encL T_api_Ins.enc (x99 ++ [y150.X]))]⟩) (tips := [(0, { r := 3 }), (1, { T := [1], r := 3 }), (4, { tip := { orc := .cells (T_retraceref17_Act.enc y150) } }), (7, { r := 3 }), (8, { tip := { form := some ((x99 ++ [y150.X]).length, encL T_api_Ins.enc (x99 ++ [y150.X])) }, T := [2, 3], r := 4 }), (9, { r := 4 }), (10, { T := [1], r := 4 })]) (by kernel_rfl) (allc (elemAt_of T_retraceref17_Act.enc_len hy150) (allc (len_app x99 ([y150.X])) (allc (encL_app T_api_Ins.enc x99 ([y150.X])) (allc (app_ok T_api_Ins.enc_len (by decide) g151) (allc (encL_len T_api_Ins.enc_len ([y150.X])) all0))))) (fun a w hs => ⟨(x99 ++ [y150.X]), h, hs⟩)
      · replace h := cond_f b149 h
        refine At.seq ?_
        refine At.region_end [0, 2, 3, 4, 29] [0, 1, 2] _ (st' := ⟨[(0, lv T_retraceref17_Act.enc p0), (2, .ptr 0 0), (3, .ptr 1 0), (4, i64 x98), (29, bo (y148.Kind == 2))], [.blk 53 [.d (.list true 0 []), i64 0], .blk 53 [.row 2 (x99).length, i64 0], .row 38 3 (encL T_api_Ins.enc x99)]⟩) (tips := []) (by kernel_rfl) all0 (norm ?_)
        refine At.cond (y148.Kind == 2) (by kernel_rfl) (fun b152 => ?_) (fun b152 => ?_)
        · replace h := cond_t b152 h
          refine At.seq ?_
          obtain ⟨y156, hy156, h⟩ := bind_some h
          obtain ⟨y157, hy157, h⟩ := bind_some h
          obtain ⟨g158, h⟩ := grd_some h
          refine At.region_end [0, 2, 3, 4, 5] [0, 1, 2, 3] _ (st' := ⟨[(0, lv T_retraceref17_Act.enc p0), (2, .ptr 0 0), (3, .ptr 1 0), (4, i64 x98), (5, .ptr 3 0)], [.blk 53 [.d (.list true 0 []), i64 0], .blk 53 [.row 2 (x99).length, i64 0], .row 38 3 (encL T_api_Ins.enc x99), .dblk 41 (encL (eInt .i64) y157)]⟩) (tips := [(3, { orc := .cells (T_retraceref17_Act.enc y156) }), (6, { pc := some { ρ := [], n0 := 0, res := .dagg (encL (eInt .i64) y157), σ' := [], e := [] } })]) (by kernel_rfl) (allc (elemAt_of T_retraceref17_Act.enc_len hy156) (allc (C_retraceref17_bound p0 y156.Label y157 hy157) (allc (lenN (he_int .i64) y157 g158.1) (allc (lenN (he_int .i64) (List.replicate 2 (0 : Int)) g158.2) all0)))) (norm ?_)
          refine At.seq ?_
          refine At.seqJ (S := Bool) (fun s => ⟨[(0, lv T_retraceref17_Act.enc p0), (2, .ptr 0 0), (3, .ptr 1 0), (4, i64 x98), (5, .ptr 3 0), (53, bo s)], [.blk 53 [.d (.list true 0 []), i64 0], .blk 53 [.row 2 (x99).length, i64 0], .row 38 3 (encL T_api_Ins.enc x99), .dblk 41 (encL (eInt .i64) y157)]⟩) (fun s => F_retraceref17_Done_J2 p0 x98 x99 y157 s = some oo100) ?_ ?_
          · obtain ⟨y189, hy189, h⟩ := bind_some h
            rcases tf (decide (y189.Label < 1)) with b190 | b190
            · replace h := cond_t b190 h
              refine At.draw_end mixedOrd 0 [0, 2, 3, 4, 5, 53] [0, 1, 2, 3] _ (st' := ⟨[(0, lv T_retraceref17_Act.enc p0), (2, .ptr 0 0), (3, .ptr 1 0), (4, i64 x98), (5, .ptr 3 0), (53, bo true)], [.blk 53 [.d (.list true 0 []), i64 0], .blk 53 [.row 2 (x99).length, i64 0], .row 38 3 (encL T_api_Ins.enc x99), .dblk 41 (encL (eInt .i64) y157)]⟩) (tips := [(2, { tip := { orc := .cells (T_retraceref17_Act.enc y189) } }), (6, { tip := { orc := .val (.bool true) } }), (12, { r := 4 })]) (by kernel_rfl) (allc (elemAt_of T_retraceref17_Act.enc_len hy189) (allc (congrArg D.bool b190) all0)) (fun a w hs => ⟨true, h, hs⟩)
            · replace h := cond_f b190 h
              obtain ⟨y191, hy191, h⟩ := bind_some h
              obtain ⟨y192, hy192, h⟩ := bind_some h
              refine At.draw_end mixedOrd 0 [0, 2, 3, 4, 5, 53] [0, 1, 2, 3] _ (st' := ⟨[(0, lv T_retraceref17_Act.enc p0), (2, .ptr 0 0), (3, .ptr 1 0), (4, i64 x98), (5, .ptr 3 0), (53, bo (decide (y192 < y191.Label)))], [.blk 53 [.d (.list true 0 []), i64 0], .blk 53 [.row 2 (x99).length, i64 0], .row 38 3 (encL T_api_Ins.enc x99), .dblk 41 (encL (eInt .i64) y157)]⟩) (tips := [(2, { tip := { orc := .cells (T_retraceref17_Act.enc y189) } }), (6, { tip := { orc := .val (.bool false) } }), (9, { tip := { orc := .cells (T_retraceref17_Act.enc y191) } }), (12, { r := 4 }), (13, { tip := { orc := .val (.int .i64 y192) }, T := [3], r := 4 })]) (by kernel_rfl) (allc (elemAt_of T_retraceref17_Act.enc_len hy189) (allc (congrArg D.bool b190) (allc (elemAt_of T_retraceref17_Act.enc_len hy191) (allc ((aAt_of (he_int .i64) (d := .int .i64 y192) hy192 rfl).1) (allc ((aAt_of (he_int .i64) (d := .int .i64 y192) hy192 rfl).2) all0))))) (fun a w hs => ⟨(decide (y192 < y191.Label)), h, hs⟩)
          · intro x173 h
            replace h : F_retraceref17_Done_J2 p0 x98 x99 y157 x173 = some oo100 := h
            rw [F_retraceref17_Done_J2] at h
            refine At.cond x173 (by kernel_rfl) (fun b174 => ?_) (fun b174 => ?_)
            · replace h := cond_t b174 h
              refine At.seq ?_
              refine At.region_end [2] [0] _ (st' := ⟨[(2, .ptr 0 0)], [.blk 53 [.d (.list true 0 []), i64 1]]⟩) (tips := []) (by kernel_rfl) all0 (norm ?_)
              obtain ⟨r175, h, e176⟩ := map_inr h
              rw [f101 _ e176] at h
              refine At.edNar [.loO 0] [2] [0] (st' := ⟨[(2, .ptr 0 0)], [.blk 53 [lv T_api_Ins.enc ([] : List T_api_Ins), i64 1]]⟩) (by kernel_rfl) ?_
              obtain rfl := some_eq h
              exact At.ret fun a w hs => ret_ok hR (ρ := []) (gs := []) (by kernel_rfl) all0 (by kernel_rfl) rfl rfl a w hs _ (.inl rfl)
            · replace h := cond_f b174 h
              refine At.nar [0, 2, 3, 4, 5] [0, 1, 2, 3] (st' := ⟨[(0, lv T_retraceref17_Act.enc p0), (2, .ptr 0 0), (3, .ptr 1 0), (4, i64 x98), (5, .ptr 3 0)], [.blk 53 [.d (.list true 0 []), i64 0], .blk 53 [.row 2 (x99).length, i64 0], .row 38 3 (encL T_api_Ins.enc x99), .dblk 41 (encL (eInt .i64) y157)]⟩) (by kernel_rfl) ?_
              refine At.skip (norm ?_)
              refine At.seq ?_
              refine At.seq ?_
              obtain ⟨y181, hy181, h⟩ := bind_some h
              refine At.region_end [0, 2, 3, 4, 5, 57] [0, 1, 2, 3] _ (st' := ⟨[(0, lv T_retraceref17_Act.enc p0), (2, .ptr 0 0), (3, .ptr 1 0), (4, i64 x98), (5, .ptr 3 0), (57, bo (decide (y181 < 0)))], [.blk 53 [.d (.list true 0 []), i64 0], .blk 53 [.row 2 (x99).length, i64 0], .row 38 3 (encL T_api_Ins.enc x99), .dblk 41 (encL (eInt .i64) y157)]⟩) (tips := [(1, { orc := .val (.int .i64 y181) })]) (by kernel_rfl) (allc ((aAt_of (he_int .i64) (d := .int .i64 y181) hy181 rfl).1) (allc ((aAt_of (he_int .i64) (d := .int .i64 y181) hy181 rfl).2) all0)) (norm ?_)
              refine At.cond (decide (y181 < 0)) (by kernel_rfl) (fun b182 => ?_) (fun b182 => ?_)
              · replace h := cond_t b182 h
                refine At.seq ?_
                refine At.region_end [2] [0] _ (st' := ⟨[(2, .ptr 0 0)], [.blk 53 [.d (.list true 0 []), i64 7]]⟩) (tips := []) (by kernel_rfl) all0 (norm ?_)
                obtain ⟨r183, h, e184⟩ := map_inr h
                rw [f101 _ e184] at h
                refine At.edNar [.loO 0] [2] [0] (st' := ⟨[(2, .ptr 0 0)], [.blk 53 [lv T_api_Ins.enc ([] : List T_api_Ins), i64 7]]⟩) (by kernel_rfl) ?_
                obtain rfl := some_eq h
                exact At.ret fun a w hs => ret_ok hR (ρ := []) (gs := []) (by kernel_rfl) all0 (by kernel_rfl) rfl rfl a w hs _ (.inl rfl)
              · replace h := cond_f b182 h
                refine At.nar [0, 2, 3, 4, 5] [0, 1, 2, 3] (st' := ⟨[(0, lv T_retraceref17_Act.enc p0), (2, .ptr 0 0), (3, .ptr 1 0), (4, i64 x98), (5, .ptr 3 0)], [.blk 53 [.d (.list true 0 []), i64 0], .blk 53 [.row 2 (x99).length, i64 0], .row 38 3 (encL T_api_Ins.enc x99), .dblk 41 (encL (eInt .i64) y157)]⟩) (by kernel_rfl) ?_
                refine At.skip (norm ?_)
                obtain ⟨y185, hy185, h⟩ := bind_some h
                obtain ⟨y186, hy186, h⟩ := bind_some h
                obtain ⟨y187, hy187, h⟩ := bind_some h
                obtain ⟨g188, h⟩ := grd_some h
                refine At.draw_end mixedOrd 1 [0, 2, 3, 4] [0, 1, 2] _ (st' := ⟨[(0, lv T_retraceref17_Act.enc p0), (2, .ptr 0 0), (3, .ptr 1 0), (4, i64 x98)], [.blk 53 [.d (.list true 0 []), i64 0], .blk 53 [.row 2 ((x99 ++ [y187])).length, i64 0], .row 38 3 (encL T_api_Ins.enc (x99 ++ [y187]))]⟩) (tips := [(0, { r := 4 }), (1, { T := [1], r := 4 }), (4, { tip := { orc := .cells (T_retraceref17_Act.enc y185) } }), (7, { r := 4 }), (8, { tip := { orc := .val (.int .i64 y186) }, T := [3], r := 4 }), (9, { tip := { pc := some { ρ := [], n0 := 0, res := .agg (T_api_Ins.pvs y187), σ' := [], e := [] } }, r := 4 }), (10, { r := 4 }), (11, { tip := { form := some ((x99 ++ [y187]).length, encL T_api_Ins.enc (x99 ++ [y187])) }, T := [2, 4], r := 5 }), (12, { r := 5 }), (13, { T := [1], r := 5 })]) (by kernel_rfl) (allc (elemAt_of T_retraceref17_Act.enc_len hy185) (allc ((aAt_of (he_int .i64) (d := .int .i64 y186) hy186 rfl).1) (allc ((aAt_of (he_int .i64) (d := .int .i64 y186) hy186 rfl).2) (allc (C_retraceref17_Aim y185.X y186 y187 hy187) (allc (len_app x99 ([y187])) (allc (encL_app T_api_Ins.enc x99 ([y187])) (allc (app_ok T_api_Ins.enc_len (by decide) g188) (allc (encL_len T_api_Ins.enc_len ([y187])) all0)))))))) (fun a w hs => ⟨(x99 ++ [y187]), h, hs⟩)
        · replace h := cond_f b152 h
          refine At.nar [0, 2, 3, 4] [0, 1, 2] (st' := ⟨[(0, lv T_retraceref17_Act.enc p0), (2, .ptr 0 0), (3, .ptr 1 0), (4, i64 x98)], [.blk 53 [.d (.list true 0 []), i64 0], .blk 53 [.row 2 (x99).length, i64 0], .row 38 3 (encL T_api_Ins.enc x99)]⟩) (by kernel_rfl) ?_
          refine At.skip (fun a w hs => ⟨x99, h, hs⟩)
    · intro x146 h
      replace h : F_retraceref17_Done_J1 x98 x146 = some oo100 := h
      rw [F_retraceref17_Done_J1] at h
      refine At.region_end [0, 2, 3, 4] [0, 1, 2] _ (st' := ⟨[(0, lv T_retraceref17_Act.enc p0), (2, .ptr 0 0), (3, .ptr 1 0), (4, i64 (w64 (x98 + 1)))], [.blk 53 [.d (.list true 0 []), i64 0], .blk 53 [.row 2 (x146).length, i64 0], .row 38 3 (encL T_api_Ins.enc x146)]⟩) (tips := []) (by kernel_rfl) all0 (fun a w hs => ⟨_, (some_eq h).symm, hs⟩)
  · replace h := cond_f b103 h
    refine At.nar [2, 3] [0, 1, 2] (st' := ⟨[(2, .ptr 0 0), (3, .ptr 1 0)], [.blk 53 [.d (.list true 0 []), i64 0], .blk 53 [.row 2 (x99).length, i64 0], .row 38 3 (encL T_api_Ins.enc x99)]⟩) (by kernel_rfl) ?_
    obtain ⟨r193, h, e194⟩ := map_inr h
    rw [f101 _ e194] at h
    refine At.exit (norm ?_)
    refine At.seq ?_
    refine At.region_end [2] [0, 2] _ (st' := ⟨[(2, .ptr 0 0)], [.blk 53 [.row 1 (x99).length, i64 0], .row 38 3 (encL T_api_Ins.enc x99)]⟩) (tips := []) (by kernel_rfl) all0 (norm ?_)
    refine At.edNar [.settle 1] [2] [0] (st' := ⟨[(2, .ptr 0 0)], [.blk 53 [lv T_api_Ins.enc x99, i64 0]]⟩) (by kernel_rfl) ?_
    obtain rfl := some_eq h
    exact At.ret fun a w hs => ret_ok hR (ρ := []) (gs := []) (by kernel_rfl) all0 (by kernel_rfl) rfl rfl a w hs _ (.inl rfl)
set_option maxRecDepth 100000 in
theorem C_retraceref16_Same (p0 : (List T_api_Ins)) (p1 : (List T_api_Ins)) (r : Bool) (h : F_retraceref16_Same p0 p1 = some r) : FnOK Try.prog 27 [lv T_api_Ins.enc p0, lv T_api_Ins.enc p1] [] (bo r) [] [] := by
  rw [F_retraceref16_Same] at h
  refine FnOK.intro Try.func27 rfl (by kernel_rfl) (by kernel_rfl) fun E gv R hR => ?_
  refine At.seq ?_
  refine At.region_end [0, 1] [] _ (st' := ⟨[(0, lv T_api_Ins.enc p0), (1, lv T_api_Ins.enc p1)], []⟩) (tips := []) (by kernel_rfl) all0 (norm ?_)
  refine At.seq ?_
  refine At.seq ?_
  refine At.region_end [0, 1, 10] [] _ (st' := ⟨[(0, lv T_api_Ins.enc p0), (1, lv T_api_Ins.enc p1), (10, bo (((p0).length : Int) != ((p1).length : Int)))], []⟩) (tips := []) (by kernel_rfl) all0 (norm ?_)
  refine At.cond (((p0).length : Int) != ((p1).length : Int)) (by kernel_rfl) (fun b2 => ?_) (fun b2 => ?_)
  · replace h := cond_t b2 h
    refine At.seq ?_
    refine At.region_end [4] [] _ (st' := ⟨[(4, bo false)], []⟩) (tips := []) (by kernel_rfl) all0 (norm ?_)
    obtain rfl := some_eq h
    exact At.ret fun a w hs => ret_ok hR (ρ := []) (gs := []) (by kernel_rfl) all0 (by kernel_rfl) rfl rfl a w hs _ (.inl rfl)
  · replace h := cond_f b2 h
    refine At.nar [0, 1] [] (st' := ⟨[(0, lv T_api_Ins.enc p0), (1, lv T_api_Ins.enc p1)], []⟩) (by kernel_rfl) ?_
    refine At.skip (norm ?_)
    refine At.seq ?_
    refine At.seq ?_
    refine At.region_end [0, 1, 5] [] _ (st' := ⟨[(0, lv T_api_Ins.enc p0), (1, lv T_api_Ins.enc p1), (5, i64 0)], []⟩) (tips := []) (by kernel_rfl) all0 (norm ?_)
    refine At.block ?_
    refine At.loop (fun s : (Int) => F_retraceref16_Same_L1 p0 p1 s) (fun s : (Int) => ⟨[(0, lv T_api_Ins.enc p0), (1, lv T_api_Ins.enc p1), (5, i64 s)], []⟩) r 0 h ?_
    intro x22 oo23 h f24
    replace h : F_retraceref16_Same_L1 p0 p1 x22 = some oo23 := h
    rw [F_retraceref16_Same_L1] at h
    refine At.seq ?_
    refine At.seq ?_
    refine At.region_end [0, 1, 5, 14] [] _ (st' := ⟨[(0, lv T_api_Ins.enc p0), (1, lv T_api_Ins.enc p1), (5, i64 x22), (14, bo (decide (x22 < ((p0).length : Int))))], []⟩) (tips := []) (by kernel_rfl) all0 (norm ?_)
    refine At.cond (decide (x22 < ((p0).length : Int))) (by kernel_rfl) (fun b26 => ?_) (fun b26 => ?_)
    · replace h := cond_t b26 h
      refine At.nar [0, 1, 5] [] (st' := ⟨[(0, lv T_api_Ins.enc p0), (1, lv T_api_Ins.enc p1), (5, i64 x22)], []⟩) (by kernel_rfl) ?_
      refine At.skip (norm ?_)
      refine At.seq ?_
      refine At.block ?_
      refine At.seq ?_
      obtain ⟨y34, hy34, h⟩ := bind_some h
      obtain ⟨y35, hy35, h⟩ := bind_some h
      refine At.draw_end mixedOrd 0 [0, 1, 5, 25] [] _ (st' := ⟨[(0, lv T_api_Ins.enc p0), (1, lv T_api_Ins.enc p1), (5, i64 x22), (25, bo (!((y34.Op == y35.Op) && ((y34.A == y35.A) && ((y34.B == y35.B) && true)))))], []⟩) (tips := [(2, { tip := { orc := .cells (T_api_Ins.enc y34) } }), (6, { tip := { orc := .cells (T_api_Ins.enc y35) } })]) (by kernel_rfl) (allc (elemAt_of T_api_Ins.enc_len hy34) (allc (elemAt_of T_api_Ins.enc_len hy35) all0)) (norm ?_)
      refine At.cond (!((y34.Op == y35.Op) && ((y34.A == y35.A) && ((y34.B == y35.B) && true)))) (by kernel_rfl) (fun b36 => ?_) (fun b36 => ?_)
      · replace h := cond_t b36 h
        refine At.seq ?_
        refine At.region_end [4] [] _ (st' := ⟨[(4, bo false)], []⟩) (tips := []) (by kernel_rfl) all0 (norm ?_)
        obtain ⟨r37, h, e38⟩ := map_inr h
        rw [f24 _ e38] at h
        obtain rfl := some_eq h
        exact At.ret fun a w hs => ret_ok hR (ρ := []) (gs := []) (by kernel_rfl) all0 (by kernel_rfl) rfl rfl a w hs _ (.inl rfl)
      · replace h := cond_f b36 h
        refine At.nar [0, 1, 5] [] (st' := ⟨[(0, lv T_api_Ins.enc p0), (1, lv T_api_Ins.enc p1), (5, i64 x22)], []⟩) (by kernel_rfl) ?_
        refine At.skip (norm ?_)
        refine At.region_end [0, 1, 5] [] _ (st' := ⟨[(0, lv T_api_Ins.enc p0), (1, lv T_api_Ins.enc p1), (5, i64 (w64 (x22 + 1)))], []⟩) (tips := []) (by kernel_rfl) all0 (fun a w hs => ⟨_, (some_eq h).symm, hs⟩)
    · replace h := cond_f b26 h
      refine At.nar [] [] (st' := ⟨[], []⟩) (by kernel_rfl) ?_
      obtain ⟨r39, h, e40⟩ := map_inr h
      rw [f24 _ e40] at h
      refine At.exit (norm ?_)
      refine At.seq ?_
      refine At.region_end [4] [] _ (st' := ⟨[(4, bo true)], []⟩) (tips := []) (by kernel_rfl) all0 (norm ?_)
      obtain rfl := some_eq h
      exact At.ret fun a w hs => ret_ok hR (ρ := []) (gs := []) (by kernel_rfl) all0 (by kernel_rfl) rfl rfl a w hs _ (.inl rfl)
set_option maxRecDepth 100000 in
theorem C_retracelaw17_PatchPlays (p0 : (List T_retraceref17_Act)) (r : Bool) (h : F_retracelaw17_PatchPlays p0 = some r) : FnOK Try.prog 6 [lv T_retraceref17_Act.enc p0] [] (bo r) [] [] := by
  rw [F_retracelaw17_PatchPlays] at h
  refine FnOK.intro Try.func6 rfl (by kernel_rfl) (by kernel_rfl) fun E gv R hR => ?_
  refine At.seq ?_
  refine At.region_end [0] [] _ (st' := ⟨[(0, lv T_retraceref17_Act.enc p0)], []⟩) (tips := []) (by kernel_rfl) all0 (norm ?_)
  refine At.seq ?_
  refine At.seq ?_
  refine At.region_end [0, 14] [] _ (st' := ⟨[(0, lv T_retraceref17_Act.enc p0), (14, bo (decide (100 < ((p0).length : Int))))], []⟩) (tips := []) (by kernel_rfl) all0 (norm ?_)
  refine At.cond (decide (100 < ((p0).length : Int))) (by kernel_rfl) (fun b4 => ?_) (fun b4 => ?_)
  · replace h := cond_t b4 h
    refine At.seq ?_
    obtain ⟨y6, hy6, h⟩ := bind_some h
    refine At.region_end [2] [] _ (st' := ⟨[(2, bo y6)], []⟩) (tips := [(0, { pc := some { ρ := [], n0 := 0, res := bo y6, σ' := [], e := [] } })]) (by kernel_rfl) (allc (C_retracelaw17_live y6 hy6) all0) (norm ?_)
    obtain rfl := some_eq h
    exact At.ret fun a w hs => ret_ok hR (ρ := []) (gs := []) (by kernel_rfl) all0 (by kernel_rfl) rfl rfl a w hs _ (.inl rfl)
  · replace h := cond_f b4 h
    refine At.nar [0] [] (st' := ⟨[(0, lv T_retraceref17_Act.enc p0)], []⟩) (by kernel_rfl) ?_
    refine At.skip (norm ?_)
    refine At.seq ?_
    refine At.region_end [0, 3] [0] _ (st' := ⟨[(0, lv T_retraceref17_Act.enc p0), (3, .ptr 0 0)], [.blk 36 [.d (.list true 0 []), .d (.list true 0 [])]]⟩) (tips := []) (by kernel_rfl) all0 (norm ?_)
    refine At.seq ?_
    refine At.seq ?_
    refine At.region_end [0, 3, 4] [0] _ (st' := ⟨[(0, lv T_retraceref17_Act.enc p0), (3, .ptr 0 0), (4, i64 0)], [.blk 36 [.d (.list true 0 []), .d (.list true 0 [])]]⟩) (tips := []) (by kernel_rfl) all0 (norm ?_)
    refine At.block ?_
    refine At.edNar [.ownO 0 0 87 5, .ownO 0 1 3 1] [0, 3, 4] [0, 1, 2] (st' := ⟨[(0, lv T_retraceref17_Act.enc p0), (3, .ptr 0 0), (4, i64 0)], [.blk 36 [.row 1 ([] : List T_patch_cell).length, .row 2 ([] : List Int).length], .row 87 5 (encL T_patch_cell.enc ([])), .row 3 1 (encL (eInt .i64) ([]))]⟩) (by kernel_rfl) ?_
    refine At.loop (fun s : (Int × (List T_patch_cell) × (List Int)) => F_retracelaw17_PatchPlays_L3 p0 s.1 s.2.1 s.2.2) (fun s : (Int × (List T_patch_cell) × (List Int)) => ⟨[(0, lv T_retraceref17_Act.enc p0), (3, .ptr 0 0), (4, i64 s.1)], [.blk 36 [.row 1 (s.2.1).length, .row 2 (s.2.2).length], .row 87 5 (encL T_patch_cell.enc s.2.1), .row 3 1 (encL (eInt .i64) s.2.2)]⟩) r (0, ([] : (List T_patch_cell)), ([] : (List Int))) h ?_
    rintro ⟨x164, x165, x166⟩ oo167 h f168
    replace h : F_retracelaw17_PatchPlays_L3 p0 x164 x165 x166 = some oo167 := h
    rw [F_retracelaw17_PatchPlays_L3] at h
    refine At.seq ?_
    refine At.seq ?_
    refine At.region_end [0, 3, 4, 21] [0, 1, 2] _ (st' := ⟨[(0, lv T_retraceref17_Act.enc p0), (3, .ptr 0 0), (4, i64 x164), (21, bo (decide (x164 < ((p0).length : Int))))], [.blk 36 [.row 1 (x165).length, .row 2 (x166).length], .row 87 5 (encL T_patch_cell.enc x165), .row 3 1 (encL (eInt .i64) x166)]⟩) (tips := []) (by kernel_rfl) all0 (norm ?_)
    refine At.cond (decide (x164 < ((p0).length : Int))) (by kernel_rfl) (fun b170 => ?_) (fun b170 => ?_)
    · replace h := cond_t b170 h
      refine At.nar [0, 3, 4] [0, 1, 2] (st' := ⟨[(0, lv T_retraceref17_Act.enc p0), (3, .ptr 0 0), (4, i64 x164)], [.blk 36 [.row 1 (x165).length, .row 2 (x166).length], .row 87 5 (encL T_patch_cell.enc x165), .row 3 1 (encL (eInt .i64) x166)]⟩) (by kernel_rfl) ?_
      refine At.skip (norm ?_)
      refine At.seq ?_
      refine At.block ?_
      refine At.seq ?_
      obtain ⟨y241, hy241, h⟩ := bind_some h
      refine At.region_end [0, 3, 4, 5] [0, 1, 2, 3] _ (st' := ⟨[(0, lv T_retraceref17_Act.enc p0), (3, .ptr 0 0), (4, i64 x164), (5, .ptr 3 0)], [.blk 36 [.row 1 (x165).length, .row 2 (x166).length], .row 87 5 (encL T_patch_cell.enc x165), .row 3 1 (encL (eInt .i64) x166), .blk 40 (T_retraceref17_Act.pvs y241)]⟩) (tips := [(2, { orc := .cells (T_retraceref17_Act.enc y241) })]) (by kernel_rfl) (allc (elemAt_of T_retraceref17_Act.enc_len hy241) all0) (norm ?_)
      refine At.seq ?_
      obtain ⟨g245, h⟩ := grd_some h
      obtain ⟨y246, hy246, h⟩ := bind_some h
      obtain ⟨g247, h⟩ := grd_some h
      refine At.region_end [0, 3, 4, 5, 6] [0, 1, 2, 3, 4] _ (st' := ⟨[(0, lv T_retraceref17_Act.enc p0), (3, .ptr 0 0), (4, i64 x164), (5, .ptr 3 0), (6, .ptr 4 0)], [.blk 36 [.row 1 (x165).length, .row 2 (x166).length], .row 87 5 (encL T_patch_cell.enc x165), .row 3 1 (encL (eInt .i64) x166), .blk 40 (T_retraceref17_Act.pvs y241), .dblk 41 (encL (eInt .i64) y246)]⟩) (tips := [(2, { form := some ((lCut p0 0 x164).length, encL T_retraceref17_Act.enc (lCut p0 0 x164)) }), (3, { pc := some { ρ := [], n0 := 0, res := .dagg (encL (eInt .i64) y246), σ' := [], e := [] } })]) (by kernel_rfl) (allc ((cut_ok T_retraceref17_Act.enc_len g245).1) (allc ((cut_ok T_retraceref17_Act.enc_len g245).2) (allc g245 (allc (C_retraceref17_Counts (lCut p0 0 x164) y246 hy246) (allc (lenN (he_int .i64) y246 g247.1) (allc (lenN (he_int .i64) (List.replicate 2 (0 : Int)) g247.2) all0)))))) (norm ?_)
      refine At.seqJ (S := (List T_patch_cell) × (List Int)) (fun s => ⟨[(0, lv T_retraceref17_Act.enc p0), (3, .ptr 0 0), (4, i64 x164)], [.blk 36 [.row 1 (s.1).length, .row 2 (s.2).length], .row 87 5 (encL T_patch_cell.enc s.1), .row 3 1 (encL (eInt .i64) s.2)]⟩) (fun s => F_retracelaw17_PatchPlays_J1 p0 x164 s.1 s.2 = some oo167) ?_ ?_
      · refine At.seq ?_
        refine At.region_end [0, 3, 4, 5, 6, 33] [0, 1, 2, 3, 4] _ (st' := ⟨[(0, lv T_retraceref17_Act.enc p0), (3, .ptr 0 0), (4, i64 x164), (5, .ptr 3 0), (6, .ptr 4 0), (33, i64 y241.Kind)], [.blk 36 [.row 1 (x165).length, .row 2 (x166).length], .row 87 5 (encL T_patch_cell.enc x165), .row 3 1 (encL (eInt .i64) x166), .blk 40 (T_retraceref17_Act.pvs y241), .dblk 41 (encL (eInt .i64) y246)]⟩) (tips := []) (by kernel_rfl) all0 (norm ?_)
        refine At.block ?_
        refine At.seq ?_
        refine At.region_end [0, 3, 4, 5, 6, 33, 45] [0, 1, 2, 3, 4] _ (st' := ⟨[(0, lv T_retraceref17_Act.enc p0), (3, .ptr 0 0), (4, i64 x164), (5, .ptr 3 0), (6, .ptr 4 0), (33, i64 y241.Kind), (45, bo (y241.Kind == 0))], [.blk 36 [.row 1 (x165).length, .row 2 (x166).length], .row 87 5 (encL T_patch_cell.enc x165), .row 3 1 (encL (eInt .i64) x166), .blk 40 (T_retraceref17_Act.pvs y241), .dblk 41 (encL (eInt .i64) y246)]⟩) (tips := []) (by kernel_rfl) all0 (norm ?_)
        refine At.cond (y241.Kind == 0) (by kernel_rfl) (fun b286 => ?_) (fun b286 => ?_)
        · replace h := cond_t b286 h
          refine At.seq ?_
          obtain ⟨y289, hy289, h⟩ := bind_some h
          obtain ⟨y290, hy290, h⟩ := bind_some h
          refine At.draw_end mixedOrd 1 [0, 3, 4, 54] [0, 1, 2] _ (st' := ⟨[(0, lv T_retraceref17_Act.enc p0), (3, .ptr 0 0), (4, i64 x164), (54, bo (y289.1 != y290))], [.blk 36 [.row 1 (y289.2.cells).length, .row 2 (y289.2.labels).length], .row 87 5 (encL T_patch_cell.enc y289.2.cells), .row 3 1 (encL (eInt .i64) y289.2.labels)]⟩) (tips := [(0, { r := 5 }), (1, { r := 5 }), (2, { T := [3], r := 5 }), (3, { r := 5 }), (4, { tip := { pc := some { ρ := [0, 1, 2, 5], n0 := 4, res := i64 y289.1, σ' := [.blk 36 [.row 1 (y289.2.cells).length, .row 2 (y289.2.labels).length], .row 87 5 (encL T_patch_cell.enc y289.2.cells), .row 3 1 (encL (eInt .i64) y289.2.labels), .row 38 3 (encL T_api_Ins.enc ([y241.X]))], e := [1, 2, 3, 4, 6] } }, T := [0, 1, 2, 5], r := 6 }), (5, { r := 6 }), (6, { tip := { orc := .val (.int .i64 y290) }, T := [4], r := 6 })]) (by kernel_rfl) (allc (C_patch_Asm_Put (⟨x165, x166⟩ : T_patch_Asm) ([y241.X]) y289 hy289) (allc ((aAt_of (he_int .i64) (d := .int .i64 y290) hy290 rfl).1) (allc ((aAt_of (he_int .i64) (d := .int .i64 y290) hy290 rfl).2) all0))) (norm ?_)
          refine At.cond (y289.1 != y290) (by kernel_rfl) (fun b291 => ?_) (fun b291 => ?_)
          · replace h := cond_t b291 h
            refine At.seq ?_
            refine At.region_end [2] [] _ (st' := ⟨[(2, bo false)], []⟩) (tips := []) (by kernel_rfl) all0 (norm ?_)
            obtain ⟨r292, h, e293⟩ := map_inr h
            rw [f168 _ e293] at h
            obtain rfl := some_eq h
            exact At.ret fun a w hs => ret_ok hR (ρ := []) (gs := []) (by kernel_rfl) all0 (by kernel_rfl) rfl rfl a w hs _ (.inl rfl)
          · replace h := cond_f b291 h
            refine At.nar [0, 3, 4] [0, 1, 2] (st' := ⟨[(0, lv T_retraceref17_Act.enc p0), (3, .ptr 0 0), (4, i64 x164)], [.blk 36 [.row 1 (y289.2.cells).length, .row 2 (y289.2.labels).length], .row 87 5 (encL T_patch_cell.enc y289.2.cells), .row 3 1 (encL (eInt .i64) y289.2.labels)]⟩) (by kernel_rfl) ?_
            refine At.skip (fun a w hs => ⟨(y289.2.cells, y289.2.labels), h, hs⟩)
        · replace h := cond_f b286 h
          refine At.seq ?_
          refine At.region_end [0, 3, 4, 5, 6, 33, 55] [0, 1, 2, 3, 4] _ (st' := ⟨[(0, lv T_retraceref17_Act.enc p0), (3, .ptr 0 0), (4, i64 x164), (5, .ptr 3 0), (6, .ptr 4 0), (33, i64 y241.Kind), (55, bo (y241.Kind == 1))], [.blk 36 [.row 1 (x165).length, .row 2 (x166).length], .row 87 5 (encL T_patch_cell.enc x165), .row 3 1 (encL (eInt .i64) x166), .blk 40 (T_retraceref17_Act.pvs y241), .dblk 41 (encL (eInt .i64) y246)]⟩) (tips := []) (by kernel_rfl) all0 (norm ?_)
          refine At.cond (y241.Kind == 1) (by kernel_rfl) (fun b294 => ?_) (fun b294 => ?_)
          · replace h := cond_t b294 h
            refine At.seq ?_
            obtain ⟨y297, hy297, h⟩ := bind_some h
            obtain ⟨y298, hy298, h⟩ := bind_some h
            refine At.draw_end mixedOrd 0 [0, 3, 4, 62] [0, 1, 2] _ (st' := ⟨[(0, lv T_retraceref17_Act.enc p0), (3, .ptr 0 0), (4, i64 x164), (62, bo (y297.1 != (w64 (y298 + 1))))], [.blk 36 [.row 1 (y297.2.cells).length, .row 2 (y297.2.labels).length], .row 87 5 (encL T_patch_cell.enc y297.2.cells), .row 3 1 (encL (eInt .i64) y297.2.labels)]⟩) (tips := [(0, { r := 5 }), (1, { tip := { pc := some { ρ := [0, 1, 2], n0 := 3, res := i64 y297.1, σ' := [.blk 36 [.row 1 (y297.2.cells).length, .row 2 (y297.2.labels).length], .row 87 5 (encL T_patch_cell.enc y297.2.cells), .row 3 1 (encL (eInt .i64) y297.2.labels)], e := [1, 2, 4, 5] } }, T := [0, 1, 2], r := 5 }), (2, { r := 5 }), (3, { tip := { orc := .val (.int .i64 y298) }, T := [4], r := 5 })]) (by kernel_rfl) (allc (C_patch_Asm_Label (⟨x165, x166⟩ : T_patch_Asm) y297 hy297) (allc ((aAt_of (he_int .i64) (d := .int .i64 y298) hy298 rfl).1) (allc ((aAt_of (he_int .i64) (d := .int .i64 y298) hy298 rfl).2) all0))) (norm ?_)
            refine At.cond (y297.1 != (w64 (y298 + 1))) (by kernel_rfl) (fun b299 => ?_) (fun b299 => ?_)
            · replace h := cond_t b299 h
              refine At.seq ?_
              refine At.region_end [2] [] _ (st' := ⟨[(2, bo false)], []⟩) (tips := []) (by kernel_rfl) all0 (norm ?_)
              obtain ⟨r300, h, e301⟩ := map_inr h
              rw [f168 _ e301] at h
              obtain rfl := some_eq h
              exact At.ret fun a w hs => ret_ok hR (ρ := []) (gs := []) (by kernel_rfl) all0 (by kernel_rfl) rfl rfl a w hs _ (.inl rfl)
            · replace h := cond_f b299 h
              refine At.nar [0, 3, 4] [0, 1, 2] (st' := ⟨[(0, lv T_retraceref17_Act.enc p0), (3, .ptr 0 0), (4, i64 x164)], [.blk 36 [.row 1 (y297.2.cells).length, .row 2 (y297.2.labels).length], .row 87 5 (encL T_patch_cell.enc y297.2.cells), .row 3 1 (encL (eInt .i64) y297.2.labels)]⟩) (by kernel_rfl) ?_
              refine At.skip (fun a w hs => ⟨(y297.2.cells, y297.2.labels), h, hs⟩)
          · replace h := cond_f b294 h
            refine At.seq ?_
            refine At.region_end [0, 3, 4, 5, 6, 63] [0, 1, 2, 3, 4] _ (st' := ⟨[(0, lv T_retraceref17_Act.enc p0), (3, .ptr 0 0), (4, i64 x164), (5, .ptr 3 0), (6, .ptr 4 0), (63, bo (y241.Kind == 2))], [.blk 36 [.row 1 (x165).length, .row 2 (x166).length], .row 87 5 (encL T_patch_cell.enc x165), .row 3 1 (encL (eInt .i64) x166), .blk 40 (T_retraceref17_Act.pvs y241), .dblk 41 (encL (eInt .i64) y246)]⟩) (tips := []) (by kernel_rfl) all0 (norm ?_)
            refine At.cond (y241.Kind == 2) (by kernel_rfl) (fun b302 => ?_) (fun b302 => ?_)
            · replace h := cond_t b302 h
              refine At.seq ?_
              obtain ⟨y305, hy305, h⟩ := bind_some h
              obtain ⟨y306, hy306, h⟩ := bind_some h
              refine At.draw_end mixedOrd 0 [0, 3, 4, 80] [0, 1, 2] _ (st' := ⟨[(0, lv T_retraceref17_Act.enc p0), (3, .ptr 0 0), (4, i64 x164), (80, bo (y305.1 != y306))], [.blk 36 [.row 1 (y305.2.cells).length, .row 2 (y305.2.labels).length], .row 87 5 (encL T_patch_cell.enc y305.2.cells), .row 3 1 (encL (eInt .i64) y305.2.labels)]⟩) (tips := [(0, { r := 5 }), (1, { r := 5 }), (2, { r := 5 }), (3, { T := [3], r := 5 }), (4, { r := 5 }), (5, { r := 5 }), (6, { T := [3], r := 5 }), (7, { r := 5 }), (8, { r := 5 }), (9, { T := [3], r := 5 }), (10, { r := 5 }), (11, { T := [3], r := 5 }), (12, { tip := { pc := some { ρ := [0, 1, 2], n0 := 3, res := i64 y305.1, σ' := [.blk 36 [.row 1 (y305.2.cells).length, .row 2 (y305.2.labels).length], .row 87 5 (encL T_patch_cell.enc y305.2.cells), .row 3 1 (encL (eInt .i64) y305.2.labels)], e := [1, 2, 3, 4] } }, T := [0, 1, 2], r := 5 }), (13, { r := 5 }), (14, { tip := { orc := .val (.int .i64 y306) }, T := [4], r := 5 })]) (by kernel_rfl) (allc (C_patch_Asm_Go y241.X.Op y241.X.A y241.X.B y241.Label (⟨x165, x166⟩ : T_patch_Asm) y305 hy305) (allc ((aAt_of (he_int .i64) (d := .int .i64 y306) hy306 rfl).1) (allc ((aAt_of (he_int .i64) (d := .int .i64 y306) hy306 rfl).2) all0))) (norm ?_)
              refine At.cond (y305.1 != y306) (by kernel_rfl) (fun b307 => ?_) (fun b307 => ?_)
              · replace h := cond_t b307 h
                refine At.seq ?_
                refine At.region_end [2] [] _ (st' := ⟨[(2, bo false)], []⟩) (tips := []) (by kernel_rfl) all0 (norm ?_)
                obtain ⟨r308, h, e309⟩ := map_inr h
                rw [f168 _ e309] at h
                obtain rfl := some_eq h
                exact At.ret fun a w hs => ret_ok hR (ρ := []) (gs := []) (by kernel_rfl) all0 (by kernel_rfl) rfl rfl a w hs _ (.inl rfl)
              · replace h := cond_f b307 h
                refine At.nar [0, 3, 4] [0, 1, 2] (st' := ⟨[(0, lv T_retraceref17_Act.enc p0), (3, .ptr 0 0), (4, i64 x164)], [.blk 36 [.row 1 (y305.2.cells).length, .row 2 (y305.2.labels).length], .row 87 5 (encL T_patch_cell.enc y305.2.cells), .row 3 1 (encL (eInt .i64) y305.2.labels)]⟩) (by kernel_rfl) ?_
                refine At.skip (fun a w hs => ⟨(y305.2.cells, y305.2.labels), h, hs⟩)
            · replace h := cond_f b302 h
              refine At.seq ?_
              obtain ⟨y313, hy313, h⟩ := bind_some h
              obtain ⟨g314, h⟩ := grd_some h
              obtain ⟨y315, hy315, h⟩ := bind_some h
              refine At.draw_end mixedOrd 0 [0, 3, 4, 44] [0, 1, 2] _ (st' := ⟨[(0, lv T_retraceref17_Act.enc p0), (3, .ptr 0 0), (4, i64 x164), (44, bo (y313.1 != y315))], [.blk 36 [.row 1 (y313.2.cells).length, .row 2 (y313.2.labels).length], .row 87 5 (encL T_patch_cell.enc y313.2.cells), .row 3 1 (encL (eInt .i64) y313.2.labels)]⟩) (tips := [(0, { r := 5 }), (1, { r := 5 }), (2, { T := [3], r := 5 }), (3, { tip := { pc := some { ρ := [0, 1, 2], n0 := 3, res := i64 y313.1, σ' := [.blk 36 [.row 1 (y313.2.cells).length, .row 2 (y313.2.labels).length], .row 87 5 (encL T_patch_cell.enc y313.2.cells), .row 3 1 (encL (eInt .i64) y313.2.labels)], e := [1, 2, 4] } }, T := [0, 1, 2], r := 5 }), (6, { tip := { form := some ((lCut p0 0 x164).length, encL T_retraceref17_Act.enc (lCut p0 0 x164)) } }), (7, { r := 5 }), (8, { T := [3], r := 5 }), (9, { tip := { pc := some { ρ := [], n0 := 0, res := i64 y315, σ' := [], e := [] } }, r := 5 })]) (by kernel_rfl) (allc (C_patch_Asm_Bind y241.Label (⟨x165, x166⟩ : T_patch_Asm) y313 hy313) (allc ((cut_ok T_retraceref17_Act.enc_len g314).1) (allc ((cut_ok T_retraceref17_Act.enc_len g314).2) (allc g314 (allc (C_retraceref17_Bind (lCut p0 0 x164) y241.Label y315 hy315) all0))))) (norm ?_)
              refine At.cond (y313.1 != y315) (by kernel_rfl) (fun b316 => ?_) (fun b316 => ?_)
              · replace h := cond_t b316 h
                refine At.seq ?_
                refine At.region_end [2] [] _ (st' := ⟨[(2, bo false)], []⟩) (tips := []) (by kernel_rfl) all0 (norm ?_)
                obtain ⟨r317, h, e318⟩ := map_inr h
                rw [f168 _ e318] at h
                obtain rfl := some_eq h
                exact At.ret fun a w hs => ret_ok hR (ρ := []) (gs := []) (by kernel_rfl) all0 (by kernel_rfl) rfl rfl a w hs _ (.inl rfl)
              · replace h := cond_f b316 h
                refine At.nar [0, 3, 4] [0, 1, 2] (st' := ⟨[(0, lv T_retraceref17_Act.enc p0), (3, .ptr 0 0), (4, i64 x164)], [.blk 36 [.row 1 (y313.2.cells).length, .row 2 (y313.2.labels).length], .row 87 5 (encL T_patch_cell.enc y313.2.cells), .row 3 1 (encL (eInt .i64) y313.2.labels)]⟩) (by kernel_rfl) ?_
                refine At.skip (fun a w hs => ⟨(y313.2.cells, y313.2.labels), h, hs⟩)
      · rintro ⟨x273, x274⟩ h
        replace h : F_retracelaw17_PatchPlays_J1 p0 x164 x273 x274 = some oo167 := h
        rw [F_retracelaw17_PatchPlays_J1] at h
        refine At.seq ?_
        obtain ⟨y279, hy279, h⟩ := bind_some h
        obtain ⟨g280, h⟩ := grd_some h
        obtain ⟨y281, hy281, h⟩ := bind_some h
        obtain ⟨y282, hy282, h⟩ := bind_some h
        refine At.draw_end mixedOrd 0 [0, 3, 4, 89] [0, 1, 2] _ (st' := ⟨[(0, lv T_retraceref17_Act.enc p0), (3, .ptr 0 0), (4, i64 x164), (89, bo (y279 != y282))], [.blk 36 [.row 1 (x273).length, .row 2 (x274).length], .row 87 5 (encL T_patch_cell.enc x273), .row 3 1 (encL (eInt .i64) x274)]⟩) (tips := [(0, { r := 3 }), (1, { tip := { pc := some { ρ := [0, 1, 2], n0 := 3, res := i64 y279, σ' := [.blk 36 [.row 1 (x273).length, .row 2 (x274).length], .row 87 5 (encL T_patch_cell.enc x273), .row 3 1 (encL (eInt .i64) x274)], e := [1, 2, 4] } }, T := [0, 1, 2], r := 3 }), (5, { tip := { form := some ((lCut p0 0 (w64 (x164 + 1))).length, encL T_retraceref17_Act.enc (lCut p0 0 (w64 (x164 + 1)))) } }), (6, { tip := { pc := some { ρ := [], n0 := 0, res := .dagg (encL (eInt .i64) y281), σ' := [], e := [] } }, r := 3 }), (7, { tip := { orc := .val (.int .i64 y282) } })]) (by kernel_rfl) (allc (C_patch_Asm_Len (⟨x273, x274⟩ : T_patch_Asm) y279 hy279) (allc ((cut_ok T_retraceref17_Act.enc_len g280).1) (allc ((cut_ok T_retraceref17_Act.enc_len g280).2) (allc g280 (allc (C_retraceref17_Counts (lCut p0 0 (w64 (x164 + 1))) y281 hy281) (allc ((aIx_of (he_int .i64) (d := .int .i64 y282) hy282 rfl).1) (allc ((aIx_of (he_int .i64) (d := .int .i64 y282) hy282 rfl).2) all0))))))) (norm ?_)
        refine At.cond (y279 != y282) (by kernel_rfl) (fun b283 => ?_) (fun b283 => ?_)
        · replace h := cond_t b283 h
          refine At.seq ?_
          refine At.region_end [2] [] _ (st' := ⟨[(2, bo false)], []⟩) (tips := []) (by kernel_rfl) all0 (norm ?_)
          obtain ⟨r284, h, e285⟩ := map_inr h
          rw [f168 _ e285] at h
          obtain rfl := some_eq h
          exact At.ret fun a w hs => ret_ok hR (ρ := []) (gs := []) (by kernel_rfl) all0 (by kernel_rfl) rfl rfl a w hs _ (.inl rfl)
        · replace h := cond_f b283 h
          refine At.nar [0, 3, 4] [0, 1, 2] (st' := ⟨[(0, lv T_retraceref17_Act.enc p0), (3, .ptr 0 0), (4, i64 x164)], [.blk 36 [.row 1 (x273).length, .row 2 (x274).length], .row 87 5 (encL T_patch_cell.enc x273), .row 3 1 (encL (eInt .i64) x274)]⟩) (by kernel_rfl) ?_
          refine At.skip (norm ?_)
          refine At.region_end [0, 3, 4] [0, 1, 2] _ (st' := ⟨[(0, lv T_retraceref17_Act.enc p0), (3, .ptr 0 0), (4, i64 (w64 (x164 + 1)))], [.blk 36 [.row 1 (x273).length, .row 2 (x274).length], .row 87 5 (encL T_patch_cell.enc x273), .row 3 1 (encL (eInt .i64) x274)]⟩) (tips := []) (by kernel_rfl) all0 (fun a w hs => ⟨_, (some_eq h).symm, hs⟩)
    · replace h := cond_f b170 h
      refine At.nar [0, 3] [0, 1, 2] (st' := ⟨[(0, lv T_retraceref17_Act.enc p0), (3, .ptr 0 0)], [.blk 36 [.row 1 (x165).length, .row 2 (x166).length], .row 87 5 (encL T_patch_cell.enc x165), .row 3 1 (encL (eInt .i64) x166)]⟩) (by kernel_rfl) ?_
      obtain ⟨r319, h, e320⟩ := map_inr h
      rw [f168 _ e320] at h
      refine At.exit (norm ?_)
      refine At.seq ?_
      obtain ⟨y322, hy322, h⟩ := bind_some h
      refine At.region_end [0, 3, 7, 8] [0, 1, 2, 3] _ (st' := ⟨[(0, lv T_retraceref17_Act.enc p0), (3, .ptr 0 0), (7, .row 3 (y322.1).length), (8, i64 y322.2)], [.blk 36 [.row 1 (x165).length, .row 2 (x166).length], .row 87 5 (encL T_patch_cell.enc x165), .row 3 1 (encL (eInt .i64) x166), .row 38 3 (encL T_api_Ins.enc y322.1)]⟩) (tips := [(1, { pc := some { ρ := [0, 1, 2, 3], n0 := 3, res := .tup [.row 3 (y322.1).length, i64 y322.2], σ' := [.blk 36 [.row 1 (x165).length, .row 2 (x166).length], .row 87 5 (encL T_patch_cell.enc x165), .row 3 1 (encL (eInt .i64) x166), .row 38 3 (encL T_api_Ins.enc y322.1)], e := [1, 2, 4] } })]) (by kernel_rfl) (allc (C_patch_Asm_Done (⟨x165, x166⟩ : T_patch_Asm) y322 hy322) all0) (norm ?_)
      refine At.seq ?_
      obtain ⟨y324, hy324, h⟩ := bind_some h
      refine At.region_end [3, 7, 8, 9] [0, 1, 2, 3, 4] _ (st' := ⟨[(3, .ptr 0 0), (7, .row 3 (y322.1).length), (8, i64 y322.2), (9, .ptr 4 0)], [.blk 36 [.row 1 (x165).length, .row 2 (x166).length], .row 87 5 (encL T_patch_cell.enc x165), .row 3 1 (encL (eInt .i64) x166), .row 38 3 (encL T_api_Ins.enc y322.1), .blk 53 (T_retraceref16_Got.pvs y324)]⟩) (tips := [(1, { pc := some { ρ := [], n0 := 0, res := .agg (T_retraceref16_Got.pvs y324), σ' := [], e := [] } })]) (by kernel_rfl) (allc (C_retraceref17_Done p0 y324 hy324) all0) (norm ?_)
      refine At.seq ?_
      obtain ⟨y326, hy326, h⟩ := bind_some h
      refine At.region_end [7, 8, 9, 10, 11] [3, 4, 5] _ (st' := ⟨[(7, .row 0 (y322.1).length), (8, i64 y322.2), (9, .ptr 1 0), (10, .row 2 (y326.1).length), (11, i64 y326.2)], [.row 38 3 (encL T_api_Ins.enc y322.1), .blk 53 (T_retraceref16_Got.pvs y324), .row 38 3 (encL T_api_Ins.enc y326.1)]⟩) (tips := [(1, { pc := some { ρ := [0, 1, 2, 5], n0 := 3, res := .tup [.row 3 (y326.1).length, i64 y326.2], σ' := [.blk 36 [.row 1 (x165).length, .row 2 (x166).length], .row 87 5 (encL T_patch_cell.enc x165), .row 3 1 (encL (eInt .i64) x166), .row 38 3 (encL T_api_Ins.enc y326.1)], e := [1, 2, 4] } })]) (by kernel_rfl) (allc (C_patch_Asm_Done (⟨x165, x166⟩ : T_patch_Asm) y326 hy326) all0) (norm ?_)
      refine At.seqJ (S := Bool) (fun s => ⟨[(2, bo s)], []⟩) (fun s => F_retracelaw17_PatchPlays_J2 s = some r) ?_ ?_
      · obtain ⟨y335, hy335, h⟩ := bind_some h
        rcases tf y335 with b336 | b336
        · replace h := cond_t b336 h
          rcases tf (y322.2 == y324.E) with b337 | b337
          · replace h := cond_t b337 h
            obtain ⟨y338, hy338, h⟩ := bind_some h
            rcases tf y338 with b339 | b339
            · replace h := cond_t b339 h
              rcases tf (y326.2 == y322.2) with b340 | b340
              · replace h := cond_t b340 h
                obtain ⟨y341, hy341, h⟩ := bind_some h
                refine At.region_end [2] [] _ (st' := ⟨[(2, bo y341)], []⟩) (tips := [(3, { settle := [0], pc := some { ρ := [], n0 := 0, res := bo y335, σ' := [], e := [] } }), (4, { orc := .val (.bool true) }), (10, { orc := .val (.bool true) }), (13, { settle := [2], pc := some { ρ := [], n0 := 0, res := bo y338, σ' := [], e := [] } }), (15, { orc := .val (.bool true) }), (20, { orc := .val (.bool true) }), (21, { pc := some { ρ := [], n0 := 0, res := bo y341, σ' := [], e := [] } })]) (by kernel_rfl) (allc (C_retraceref16_Same y322.1 y324.L y335 hy335) (allc (congrArg D.bool b336) (allc (congrArg D.bool b337) (allc (C_retraceref16_Same y326.1 y322.1 y338 hy338) (allc (congrArg D.bool b339) (allc (congrArg D.bool b340) (allc (C_retracelaw17_live y341 hy341) all0))))))) (fun a w hs => ⟨y341, h, hs⟩)
              · replace h := cond_f b340 h
                refine At.region_end [2] [] _ (st' := ⟨[(2, bo false)], []⟩) (tips := [(3, { settle := [0], pc := some { ρ := [], n0 := 0, res := bo y335, σ' := [], e := [] } }), (4, { orc := .val (.bool true) }), (10, { orc := .val (.bool true) }), (13, { settle := [2], pc := some { ρ := [], n0 := 0, res := bo y338, σ' := [], e := [] } }), (15, { orc := .val (.bool true) }), (20, { orc := .val (.bool false) })]) (by kernel_rfl) (allc (C_retraceref16_Same y322.1 y324.L y335 hy335) (allc (congrArg D.bool b336) (allc (congrArg D.bool b337) (allc (C_retraceref16_Same y326.1 y322.1 y338 hy338) (allc (congrArg D.bool b339) (allc (congrArg D.bool b340) all0)))))) (fun a w hs => ⟨false, h, hs⟩)
            · replace h := cond_f b339 h
              refine At.region_end [2] [] _ (st' := ⟨[(2, bo false)], []⟩) (tips := [(3, { settle := [0], pc := some { ρ := [], n0 := 0, res := bo y335, σ' := [], e := [] } }), (4, { orc := .val (.bool true) }), (10, { orc := .val (.bool true) }), (13, { settle := [2], pc := some { ρ := [], n0 := 0, res := bo y338, σ' := [], e := [] } }), (15, { orc := .val (.bool false) })]) (by kernel_rfl) (allc (C_retraceref16_Same y322.1 y324.L y335 hy335) (allc (congrArg D.bool b336) (allc (congrArg D.bool b337) (allc (C_retraceref16_Same y326.1 y322.1 y338 hy338) (allc (congrArg D.bool b339) all0))))) (fun a w hs => ⟨false, h, hs⟩)
          · replace h := cond_f b337 h
            refine At.region_end [2] [] _ (st' := ⟨[(2, bo false)], []⟩) (tips := [(3, { settle := [0], pc := some { ρ := [], n0 := 0, res := bo y335, σ' := [], e := [] } }), (4, { orc := .val (.bool true) }), (10, { orc := .val (.bool false) })]) (by kernel_rfl) (allc (C_retraceref16_Same y322.1 y324.L y335 hy335) (allc (congrArg D.bool b336) (allc (congrArg D.bool b337) all0))) (fun a w hs => ⟨false, h, hs⟩)
        · replace h := cond_f b336 h
          refine At.region_end [2] [] _ (st' := ⟨[(2, bo false)], []⟩) (tips := [(3, { settle := [0], pc := some { ρ := [], n0 := 0, res := bo y335, σ' := [], e := [] } }), (4, { orc := .val (.bool false) })]) (by kernel_rfl) (allc (C_retraceref16_Same y322.1 y324.L y335 hy335) (allc (congrArg D.bool b336) all0)) (fun a w hs => ⟨false, h, hs⟩)
      · intro x334 h
        replace h : F_retracelaw17_PatchPlays_J2 x334 = some r := h
        rw [F_retracelaw17_PatchPlays_J2] at h
        obtain rfl := some_eq h
        exact At.ret fun a w hs => ret_ok hR (ρ := []) (gs := []) (by kernel_rfl) all0 (by kernel_rfl) rfl rfl a w hs _ (.inl rfl)
end Go.Ab
