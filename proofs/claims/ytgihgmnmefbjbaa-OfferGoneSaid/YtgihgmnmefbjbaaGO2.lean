import Derived.Test.YtgihgmnmefbjbaaGO1
namespace Go.Ab
open Go.Proofs
set_option linter.unusedVariables false
set_option maxRecDepth 100000 in
theorem C_retraceref20_Check (p0 : T_api_Code) (r : (List Int)) (h : F_retraceref20_Check p0 = some r) : FnOK Try.prog 54 [.agg (T_api_Code.pvs p0)] [] (.dagg (encL (eInt .i64) r)) [] [] := by
  rw [F_retraceref20_Check] at h
  refine FnOK.intro Try.func54 rfl (by kernel_rfl) (by kernel_rfl) fun E gv R hR => ?_
  refine At.seq ?_
  refine At.region_end [1, 2] [0, 1] _ (st' := ⟨[(1, .ptr 0 0), (2, .ptr 1 0)], [.blk 26 (T_api_Code.pvs p0), .dblk 32 (encL (eInt .i64) (List.replicate 2 (0 : Int)))]⟩) (tips := []) (by kernel_rfl) all0 (norm ?_)
  refine At.seq ?_
  refine At.seq ?_
  obtain ⟨y7, hy7, h⟩ := bind_some h
  refine At.region_end [1, 2, 11] [0, 1] _ (st' := ⟨[(1, .ptr 0 0), (2, .ptr 1 0), (11, bo (!y7))], [.blk 26 (T_api_Code.pvs p0), .dblk 32 (encL (eInt .i64) (List.replicate 2 (0 : Int)))]⟩) (tips := [(1, { pc := some { ρ := [], n0 := 0, res := bo y7, σ' := [], e := [] } })]) (by kernel_rfl) (allc (C_retraceref20_tables p0 y7 hy7) all0) (norm ?_)
  refine At.cond (!y7) (by kernel_rfl) (fun b8 => ?_) (fun b8 => ?_)
  · replace h := cond_t b8 h
    refine At.seq ?_
    obtain ⟨g10, h⟩ := grd_some h
    refine At.region_end [2] [1] _ (st' := ⟨[(2, .ptr 0 0)], [.dblk 32 (encL (eInt .i64) ([0, 3] : List Int))]⟩) (tips := []) (by kernel_rfl) (allc (lenN (he_int .i64) ([0, 3] : List Int) g10.1) (allc (lenN (he_int .i64) (List.replicate 2 (0 : Int)) g10.2) all0)) (norm ?_)
    obtain ⟨g11, h⟩ := grd_some h
    obtain rfl := some_eq h
    exact At.ret fun a w hs => ret_ok hR (ρ := []) (gs := []) (by kernel_rfl) (allc (lenN (he_int .i64) ([0, 3] : List Int) g11) all0) (by kernel_rfl) rfl rfl a w hs _ (.inl rfl)
  · replace h := cond_f b8 h
    refine At.nar [1, 2] [0, 1] (st' := ⟨[(1, .ptr 0 0), (2, .ptr 1 0)], [.blk 26 (T_api_Code.pvs p0), .dblk 32 (encL (eInt .i64) (List.replicate 2 (0 : Int)))]⟩) (by kernel_rfl) ?_
    refine At.skip (norm ?_)
    refine At.seq ?_
    refine At.region_end [1, 2, 3] [0, 1] _ (st' := ⟨[(1, .ptr 0 0), (2, .ptr 1 0), (3, i64 0)], [.blk 26 (T_api_Code.pvs p0), .dblk 32 (encL (eInt .i64) (List.replicate 2 (0 : Int)))]⟩) (tips := []) (by kernel_rfl) all0 (norm ?_)
    refine At.seq ?_
    refine At.seq ?_
    refine At.region_end [1, 2, 3, 4] [0, 1] _ (st' := ⟨[(1, .ptr 0 0), (2, .ptr 1 0), (3, i64 0), (4, i64 0)], [.blk 26 (T_api_Code.pvs p0), .dblk 32 (encL (eInt .i64) (List.replicate 2 (0 : Int)))]⟩) (tips := []) (by kernel_rfl) all0 (norm ?_)
    refine At.block ?_
    refine At.loop (fun s : (Int × Int) => F_retraceref20_Check_L4 p0 s.1 s.2) (fun s : (Int × Int) => ⟨[(1, .ptr 0 0), (2, .ptr 1 0), (3, i64 s.1), (4, i64 s.2)], [.blk 26 (T_api_Code.pvs p0), .dblk 32 (encL (eInt .i64) (List.replicate 2 (0 : Int)))]⟩) r (0, 0) h ?_
    rintro ⟨x108, x109⟩ oo110 h f111
    replace h : F_retraceref20_Check_L4 p0 x108 x109 = some oo110 := h
    rw [F_retraceref20_Check_L4] at h
    refine At.seq ?_
    refine At.seq ?_
    refine At.region_end [1, 2, 3, 4, 17] [0, 1] _ (st' := ⟨[(1, .ptr 0 0), (2, .ptr 1 0), (3, i64 x108), (4, i64 x109), (17, bo (decide (x109 < ((p0.Defs).length : Int))))], [.blk 26 (T_api_Code.pvs p0), .dblk 32 (encL (eInt .i64) (List.replicate 2 (0 : Int)))]⟩) (tips := []) (by kernel_rfl) all0 (norm ?_)
    refine At.cond (decide (x109 < ((p0.Defs).length : Int))) (by kernel_rfl) (fun b113 => ?_) (fun b113 => ?_)
    · replace h := cond_t b113 h
      refine At.nar [1, 2, 3, 4] [0, 1] (st' := ⟨[(1, .ptr 0 0), (2, .ptr 1 0), (3, i64 x108), (4, i64 x109)], [.blk 26 (T_api_Code.pvs p0), .dblk 32 (encL (eInt .i64) (List.replicate 2 (0 : Int)))]⟩) (by kernel_rfl) ?_
      refine At.skip (norm ?_)
      refine At.seq ?_
      refine At.block ?_
      refine At.seq ?_
      obtain ⟨y158, hy158, h⟩ := bind_some h
      refine At.region_end [1, 2, 3, 4, 5] [0, 1] _ (st' := ⟨[(1, .ptr 0 0), (2, .ptr 1 0), (3, i64 x108), (4, i64 x109), (5, i64 y158.Entry)], [.blk 26 (T_api_Code.pvs p0), .dblk 32 (encL (eInt .i64) (List.replicate 2 (0 : Int)))]⟩) (tips := [(3, { orc := .cells (T_api_Def.enc y158) })]) (by kernel_rfl) (allc (elemAt_of T_api_Def.enc_len hy158) all0) (norm ?_)
      refine At.block ?_
      refine At.loop (fun s : (Int × Int) => F_retraceref20_Check_L2 p0 x109 s.1 s.2) (fun s : (Int × Int) => ⟨[(1, .ptr 0 0), (2, .ptr 1 0), (3, i64 s.1), (4, i64 x109), (5, i64 s.2)], [.blk 26 (T_api_Code.pvs p0), .dblk 32 (encL (eInt .i64) (List.replicate 2 (0 : Int)))]⟩) oo110 (x108, y158.Entry) h ?_
      rintro ⟨x159, x160⟩ oo161 h f162
      replace h : F_retraceref20_Check_L2 p0 x109 x159 x160 = some oo161 := h
      rw [F_retraceref20_Check_L2] at h
      refine At.seq ?_
      refine At.seq ?_
      obtain ⟨y167, hy167, h⟩ := bind_some h
      refine At.region_end [1, 2, 3, 4, 5, 30] [0, 1] _ (st' := ⟨[(1, .ptr 0 0), (2, .ptr 1 0), (3, i64 x159), (4, i64 x109), (5, i64 x160), (30, bo (decide (x160 < y167)))], [.blk 26 (T_api_Code.pvs p0), .dblk 32 (encL (eInt .i64) (List.replicate 2 (0 : Int)))]⟩) (tips := [(3, { pc := some { ρ := [], n0 := 0, res := i64 y167, σ' := [], e := [] } })]) (by kernel_rfl) (allc (C_retraceref20_To p0 x109 y167 hy167) all0) (norm ?_)
      refine At.cond (decide (x160 < y167)) (by kernel_rfl) (fun b168 => ?_) (fun b168 => ?_)
      · replace h := cond_t b168 h
        refine At.nar [1, 2, 3, 4, 5] [0, 1] (st' := ⟨[(1, .ptr 0 0), (2, .ptr 1 0), (3, i64 x159), (4, i64 x109), (5, i64 x160)], [.blk 26 (T_api_Code.pvs p0), .dblk 32 (encL (eInt .i64) (List.replicate 2 (0 : Int)))]⟩) (by kernel_rfl) ?_
        refine At.skip (norm ?_)
        refine At.seqJ (S := Int) (fun s => ⟨[(1, .ptr 0 0), (2, .ptr 1 0), (3, i64 s), (4, i64 x109), (5, i64 x160)], [.blk 26 (T_api_Code.pvs p0), .dblk 32 (encL (eInt .i64) (List.replicate 2 (0 : Int)))]⟩) (fun s => F_retraceref20_Check_J1 x160 s = some oo161) ?_ ?_
        · refine At.block ?_
          refine At.seq ?_
          refine At.seq ?_
          obtain ⟨y189, hy189, h⟩ := bind_some h
          refine At.region_end [1, 2, 3, 4, 5, 38] [0, 1] _ (st' := ⟨[(1, .ptr 0 0), (2, .ptr 1 0), (3, i64 x159), (4, i64 x109), (5, i64 x160), (38, bo (!y189))], [.blk 26 (T_api_Code.pvs p0), .dblk 32 (encL (eInt .i64) (List.replicate 2 (0 : Int)))]⟩) (tips := [(4, { pc := some { ρ := [], n0 := 0, res := bo y189, σ' := [], e := [] } })]) (by kernel_rfl) (allc (C_retraceref20_may p0 x109 x160 x159 y189 hy189) all0) (norm ?_)
          refine At.cond (!y189) (by kernel_rfl) (fun b190 => ?_) (fun b190 => ?_)
          · replace h := cond_t b190 h
            refine At.seq ?_
            obtain ⟨g192, h⟩ := grd_some h
            refine At.region_end [2] [1] _ (st' := ⟨[(2, .ptr 0 0)], [.dblk 32 (encL (eInt .i64) ([x160, 15] : List Int))]⟩) (tips := []) (by kernel_rfl) (allc (lenN (he_int .i64) ([x160, 15] : List Int) g192.1) (allc (lenN (he_int .i64) (List.replicate 2 (0 : Int)) g192.2) all0)) (norm ?_)
            obtain ⟨r193, h, e194⟩ := map_inr h
            rw [f162 _ e194] at h
            obtain ⟨r195, h, e196⟩ := map_inr h
            rw [f111 _ e196] at h
            obtain ⟨g197, h⟩ := grd_some h
            obtain rfl := some_eq h
            exact At.ret fun a w hs => ret_ok hR (ρ := []) (gs := []) (by kernel_rfl) (allc (lenN (he_int .i64) ([x160, 15] : List Int) g197) all0) (by kernel_rfl) rfl rfl a w hs _ (.inl rfl)
          · replace h := cond_f b190 h
            refine At.nar [1, 2, 3, 4, 5] [0, 1] (st' := ⟨[(1, .ptr 0 0), (2, .ptr 1 0), (3, i64 x159), (4, i64 x109), (5, i64 x160)], [.blk 26 (T_api_Code.pvs p0), .dblk 32 (encL (eInt .i64) (List.replicate 2 (0 : Int)))]⟩) (by kernel_rfl) ?_
            refine At.skip (norm ?_)
            refine At.seq ?_
            obtain ⟨y199, hy199, h⟩ := bind_some h
            refine At.region_end [1, 2, 3, 4, 5, 47] [0, 1] _ (st' := ⟨[(1, .ptr 0 0), (2, .ptr 1 0), (3, i64 x159), (4, i64 x109), (5, i64 x160), (47, bo (y199.Op == 1))], [.blk 26 (T_api_Code.pvs p0), .dblk 32 (encL (eInt .i64) (List.replicate 2 (0 : Int)))]⟩) (tips := [(3, { orc := .cells (T_api_Ins.enc y199) })]) (by kernel_rfl) (allc (elemAt_of T_api_Ins.enc_len hy199) all0) (norm ?_)
            refine At.cond (y199.Op == 1) (by kernel_rfl) (fun b200 => ?_) (fun b200 => ?_)
            · replace h := cond_t b200 h
              refine At.region_end [1, 2, 3, 4, 5] [0, 1] _ (st' := ⟨[(1, .ptr 0 0), (2, .ptr 1 0), (3, i64 (w64 (x159 + 1))), (4, i64 x109), (5, i64 x160)], [.blk 26 (T_api_Code.pvs p0), .dblk 32 (encL (eInt .i64) (List.replicate 2 (0 : Int)))]⟩) (tips := []) (by kernel_rfl) all0 (fun a w hs => ⟨(w64 (x159 + 1)), h, hs⟩)
            · replace h := cond_f b200 h
              refine At.nar [1, 2, 3, 4, 5] [0, 1] (st' := ⟨[(1, .ptr 0 0), (2, .ptr 1 0), (3, i64 x159), (4, i64 x109), (5, i64 x160)], [.blk 26 (T_api_Code.pvs p0), .dblk 32 (encL (eInt .i64) (List.replicate 2 (0 : Int)))]⟩) (by kernel_rfl) ?_
              refine At.skip (fun a w hs => ⟨x159, h, hs⟩)
        · intro x182 h
          replace h : F_retraceref20_Check_J1 x160 x182 = some oo161 := h
          rw [F_retraceref20_Check_J1] at h
          refine At.region_end [1, 2, 3, 4, 5] [0, 1] _ (st' := ⟨[(1, .ptr 0 0), (2, .ptr 1 0), (3, i64 x182), (4, i64 x109), (5, i64 (w64 (x160 + 1)))], [.blk 26 (T_api_Code.pvs p0), .dblk 32 (encL (eInt .i64) (List.replicate 2 (0 : Int)))]⟩) (tips := []) (by kernel_rfl) all0 (fun a w hs => ⟨_, (some_eq h).symm, hs⟩)
      · replace h := cond_f b168 h
        refine At.nar [1, 2, 3, 4] [0, 1] (st' := ⟨[(1, .ptr 0 0), (2, .ptr 1 0), (3, i64 x159), (4, i64 x109)], [.blk 26 (T_api_Code.pvs p0), .dblk 32 (encL (eInt .i64) (List.replicate 2 (0 : Int)))]⟩) (by kernel_rfl) ?_
        obtain ⟨r201, h, e202⟩ := map_inr h
        rw [f162 _ e202] at h
        refine At.exit (norm ?_)
        refine At.region_end [1, 2, 3, 4] [0, 1] _ (st' := ⟨[(1, .ptr 0 0), (2, .ptr 1 0), (3, i64 x159), (4, i64 (w64 (x109 + 1)))], [.blk 26 (T_api_Code.pvs p0), .dblk 32 (encL (eInt .i64) (List.replicate 2 (0 : Int)))]⟩) (tips := []) (by kernel_rfl) all0 (fun a w hs => ⟨_, (some_eq h).symm, hs⟩)
    · replace h := cond_f b113 h
      refine At.nar [1, 2, 3] [0, 1] (st' := ⟨[(1, .ptr 0 0), (2, .ptr 1 0), (3, i64 x108)], [.blk 26 (T_api_Code.pvs p0), .dblk 32 (encL (eInt .i64) (List.replicate 2 (0 : Int)))]⟩) (by kernel_rfl) ?_
      obtain ⟨r203, h, e204⟩ := map_inr h
      rw [f111 _ e204] at h
      refine At.exit (norm ?_)
      refine At.seq ?_
      refine At.seq ?_
      refine At.region_end [1, 2, 53] [0, 1] _ (st' := ⟨[(1, .ptr 0 0), (2, .ptr 1 0), (53, bo (x108 != p0.Stmts))], [.blk 26 (T_api_Code.pvs p0), .dblk 32 (encL (eInt .i64) (List.replicate 2 (0 : Int)))]⟩) (tips := []) (by kernel_rfl) all0 (norm ?_)
      refine At.cond (x108 != p0.Stmts) (by kernel_rfl) (fun b208 => ?_) (fun b208 => ?_)
      · replace h := cond_t b208 h
        refine At.seq ?_
        obtain ⟨g210, h⟩ := grd_some h
        refine At.region_end [2] [1] _ (st' := ⟨[(2, .ptr 0 0)], [.dblk 32 (encL (eInt .i64) ([0, 3] : List Int))]⟩) (tips := []) (by kernel_rfl) (allc (lenN (he_int .i64) ([0, 3] : List Int) g210.1) (allc (lenN (he_int .i64) (List.replicate 2 (0 : Int)) g210.2) all0)) (norm ?_)
        obtain ⟨g211, h⟩ := grd_some h
        obtain rfl := some_eq h
        exact At.ret fun a w hs => ret_ok hR (ρ := []) (gs := []) (by kernel_rfl) (allc (lenN (he_int .i64) ([0, 3] : List Int) g211) all0) (by kernel_rfl) rfl rfl a w hs _ (.inl rfl)
      · replace h := cond_f b208 h
        refine At.nar [1, 2] [0, 1] (st' := ⟨[(1, .ptr 0 0), (2, .ptr 1 0)], [.blk 26 (T_api_Code.pvs p0), .dblk 32 (encL (eInt .i64) (List.replicate 2 (0 : Int)))]⟩) (by kernel_rfl) ?_
        refine At.skip (norm ?_)
        refine At.seq ?_
        refine At.seq ?_
        refine At.region_end [1, 2, 6] [0, 1] _ (st' := ⟨[(1, .ptr 0 0), (2, .ptr 1 0), (6, i64 0)], [.blk 26 (T_api_Code.pvs p0), .dblk 32 (encL (eInt .i64) (List.replicate 2 (0 : Int)))]⟩) (tips := []) (by kernel_rfl) all0 (norm ?_)
        refine At.block ?_
        refine At.loop (fun s : (Int) => F_retraceref20_Check_L3 p0 s) (fun s : (Int) => ⟨[(1, .ptr 0 0), (2, .ptr 1 0), (6, i64 s)], [.blk 26 (T_api_Code.pvs p0), .dblk 32 (encL (eInt .i64) (List.replicate 2 (0 : Int)))]⟩) r 0 h ?_
        intro x231 oo232 h f233
        replace h : F_retraceref20_Check_L3 p0 x231 = some oo232 := h
        rw [F_retraceref20_Check_L3] at h
        refine At.seq ?_
        refine At.seq ?_
        refine At.region_end [1, 2, 6, 59] [0, 1] _ (st' := ⟨[(1, .ptr 0 0), (2, .ptr 1 0), (6, i64 x231), (59, bo (decide (x231 < ((p0.Defs).length : Int))))], [.blk 26 (T_api_Code.pvs p0), .dblk 32 (encL (eInt .i64) (List.replicate 2 (0 : Int)))]⟩) (tips := []) (by kernel_rfl) all0 (norm ?_)
        refine At.cond (decide (x231 < ((p0.Defs).length : Int))) (by kernel_rfl) (fun b235 => ?_) (fun b235 => ?_)
        · replace h := cond_t b235 h
          refine At.nar [1, 2, 6] [0, 1] (st' := ⟨[(1, .ptr 0 0), (2, .ptr 1 0), (6, i64 x231)], [.blk 26 (T_api_Code.pvs p0), .dblk 32 (encL (eInt .i64) (List.replicate 2 (0 : Int)))]⟩) (by kernel_rfl) ?_
          refine At.skip (norm ?_)
          refine At.seq ?_
          refine At.block ?_
          refine At.seq ?_
          obtain ⟨y242, hy242, h⟩ := bind_some h
          refine At.region_end [1, 2, 6, 8] [0, 1] _ (st' := ⟨[(1, .ptr 0 0), (2, .ptr 1 0), (6, i64 x231), (8, i64 y242.2)], [.blk 26 (T_api_Code.pvs p0), .dblk 32 (encL (eInt .i64) (List.replicate 2 (0 : Int)))]⟩) (tips := [(2, { pc := some { ρ := [2], n0 := 0, res := .tup [.row 0 (y242.1).length, i64 y242.2], σ' := [.row 104 3 (encL T_retraceref20_Is.enc y242.1)], e := [] } })]) (by kernel_rfl) (allc (C_retraceref20_Flow p0 x231 y242 hy242) all0) (norm ?_)
          refine At.seq ?_
          refine At.region_end [1, 2, 6, 8, 69] [0, 1] _ (st' := ⟨[(1, .ptr 0 0), (2, .ptr 1 0), (6, i64 x231), (8, i64 y242.2), (69, bo (decide (0 ≤ y242.2)))], [.blk 26 (T_api_Code.pvs p0), .dblk 32 (encL (eInt .i64) (List.replicate 2 (0 : Int)))]⟩) (tips := []) (by kernel_rfl) all0 (norm ?_)
          refine At.cond (decide (0 ≤ y242.2)) (by kernel_rfl) (fun b243 => ?_) (fun b243 => ?_)
          · replace h := cond_t b243 h
            refine At.seq ?_
            obtain ⟨g245, h⟩ := grd_some h
            refine At.region_end [2] [1] _ (st' := ⟨[(2, .ptr 0 0)], [.dblk 32 (encL (eInt .i64) ([y242.2, 14] : List Int))]⟩) (tips := []) (by kernel_rfl) (allc (lenN (he_int .i64) ([y242.2, 14] : List Int) g245.1) (allc (lenN (he_int .i64) (List.replicate 2 (0 : Int)) g245.2) all0)) (norm ?_)
            obtain ⟨r246, h, e247⟩ := map_inr h
            rw [f233 _ e247] at h
            obtain ⟨g248, h⟩ := grd_some h
            obtain rfl := some_eq h
            exact At.ret fun a w hs => ret_ok hR (ρ := []) (gs := []) (by kernel_rfl) (allc (lenN (he_int .i64) ([y242.2, 14] : List Int) g248) all0) (by kernel_rfl) rfl rfl a w hs _ (.inl rfl)
          · replace h := cond_f b243 h
            refine At.nar [1, 2, 6] [0, 1] (st' := ⟨[(1, .ptr 0 0), (2, .ptr 1 0), (6, i64 x231)], [.blk 26 (T_api_Code.pvs p0), .dblk 32 (encL (eInt .i64) (List.replicate 2 (0 : Int)))]⟩) (by kernel_rfl) ?_
            refine At.skip (norm ?_)
            refine At.region_end [1, 2, 6] [0, 1] _ (st' := ⟨[(1, .ptr 0 0), (2, .ptr 1 0), (6, i64 (w64 (x231 + 1)))], [.blk 26 (T_api_Code.pvs p0), .dblk 32 (encL (eInt .i64) (List.replicate 2 (0 : Int)))]⟩) (tips := []) (by kernel_rfl) all0 (fun a w hs => ⟨_, (some_eq h).symm, hs⟩)
        · replace h := cond_f b235 h
          refine At.nar [2] [1] (st' := ⟨[(2, .ptr 0 0)], [.dblk 32 (encL (eInt .i64) (List.replicate 2 (0 : Int)))]⟩) (by kernel_rfl) ?_
          obtain ⟨r249, h, e250⟩ := map_inr h
          rw [f233 _ e250] at h
          refine At.exit (norm ?_)
          refine At.seq ?_
          obtain ⟨g252, h⟩ := grd_some h
          refine At.region_end [2] [0] _ (st' := ⟨[(2, .ptr 0 0)], [.dblk 32 (encL (eInt .i64) ([0, 0] : List Int))]⟩) (tips := []) (by kernel_rfl) (allc (lenN (he_int .i64) ([0, 0] : List Int) g252.1) (allc (lenN (he_int .i64) (List.replicate 2 (0 : Int)) g252.2) all0)) (norm ?_)
          obtain ⟨g253, h⟩ := grd_some h
          obtain rfl := some_eq h
          exact At.ret fun a w hs => ret_ok hR (ρ := []) (gs := []) (by kernel_rfl) (allc (lenN (he_int .i64) ([0, 0] : List Int) g253) all0) (by kernel_rfl) rfl rfl a w hs _ (.inl rfl)
set_option maxRecDepth 100000 in
theorem C_retraceref20_Right (p0 : T_api_Code) (r : Bool) (h : F_retraceref20_Right p0 = some r) : FnOK Try.prog 33 [.agg (T_api_Code.pvs p0)] [] (bo r) [] [] := by
  rw [F_retraceref20_Right] at h
  refine FnOK.intro Try.func33 rfl (by kernel_rfl) (by kernel_rfl) fun E gv R hR => ?_
  refine At.seq ?_
  refine At.region_end [1] [0] _ (st' := ⟨[(1, .ptr 0 0)], [.blk 26 (T_api_Code.pvs p0)]⟩) (tips := []) (by kernel_rfl) all0 (norm ?_)
  refine At.seq ?_
  obtain ⟨y3, hy3, h⟩ := bind_some h
  obtain ⟨g4, h⟩ := grd_some h
  refine At.region_end [2] [] _ (st' := ⟨[(2, bo (y3 == ([0, 0] : List Int)))], []⟩) (tips := [(1, { pc := some { ρ := [], n0 := 0, res := .dagg (encL (eInt .i64) y3), σ' := [], e := [] } }), (3, { orc := .val (.bool (y3 == ([0, 0] : List Int))) })]) (by kernel_rfl) (allc (C_retraceref20_Check p0 y3 hy3) (allc (eqTwo_ok .i64 g4) (allc (twoOK .i64 g4) all0))) (norm ?_)
  obtain rfl := some_eq h
  exact At.ret fun a w hs => ret_ok hR (ρ := []) (gs := []) (by kernel_rfl) all0 (by kernel_rfl) rfl rfl a w hs _ (.inl rfl)
set_option maxRecDepth 100000 in
theorem C_retraceref22_from (p0 : Int) (p1 : Int) (r : Bool) (h : F_retraceref22_from p0 p1 = some r) : FnOK Try.prog 43 [i64 p0, i64 p1] [] (bo r) [] [] := by
  rw [F_retraceref22_from] at h
  refine FnOK.intro Try.func43 rfl (by kernel_rfl) (by kernel_rfl) fun E gv R hR => ?_
  refine At.seq ?_
  refine At.region_end [0, 1] [] _ (st' := ⟨[(0, i64 p0), (1, i64 p1)], []⟩) (tips := []) (by kernel_rfl) all0 (norm ?_)
  refine At.seqJ (S := Bool) (fun s => ⟨[(4, bo s)], []⟩) (fun s => F_retraceref22_from_J1 s = some r) ?_ ?_
  · rcases tf (decide (0 ≤ p0)) with b3 | b3
    · replace h := cond_t b3 h
      refine At.region_end [4] [] _ (st' := ⟨[(4, bo (decide (p0 < p1)))], []⟩) (tips := [(2, { orc := .val (.bool true) })]) (by kernel_rfl) (allc (congrArg D.bool b3) all0) (fun a w hs => ⟨(decide (p0 < p1)), h, hs⟩)
    · replace h := cond_f b3 h
      refine At.region_end [4] [] _ (st' := ⟨[(4, bo false)], []⟩) (tips := [(2, { orc := .val (.bool false) })]) (by kernel_rfl) (allc (congrArg D.bool b3) all0) (fun a w hs => ⟨false, h, hs⟩)
  · intro x2 h
    replace h : F_retraceref22_from_J1 x2 = some r := h
    rw [F_retraceref22_from_J1] at h
    obtain rfl := some_eq h
    exact At.ret fun a w hs => ret_ok hR (ρ := []) (gs := []) (by kernel_rfl) all0 (by kernel_rfl) rfl rfl a w hs _ (.inl rfl)
set_option maxRecDepth 100000 in
theorem C_retraceref20_Routine (p0 : T_api_Code) (p1 : Int) (r : Int) (h : F_retraceref20_Routine p0 p1 = some r) : FnOK Try.prog 57 [.agg (T_api_Code.pvs p0), i64 p1] [] (i64 r) [] [] := by
  rw [F_retraceref20_Routine] at h
  refine FnOK.intro Try.func57 rfl (by kernel_rfl) (by kernel_rfl) fun E gv R hR => ?_
  refine At.seq ?_
  refine At.region_end [1, 2] [0] _ (st' := ⟨[(1, i64 p1), (2, .ptr 0 0)], [.blk 26 (T_api_Code.pvs p0)]⟩) (tips := []) (by kernel_rfl) all0 (norm ?_)
  refine At.seq ?_
  refine At.region_end [1, 2, 5] [0] _ (st' := ⟨[(1, i64 p1), (2, .ptr 0 0), (5, i64 (-1))], [.blk 26 (T_api_Code.pvs p0)]⟩) (tips := []) (by kernel_rfl) all0 (norm ?_)
  refine At.seq ?_
  refine At.seq ?_
  refine At.region_end [1, 2, 5, 6] [0] _ (st' := ⟨[(1, i64 p1), (2, .ptr 0 0), (5, i64 (-1)), (6, i64 0)], [.blk 26 (T_api_Code.pvs p0)]⟩) (tips := []) (by kernel_rfl) all0 (norm ?_)
  refine At.block ?_
  refine At.loop (fun s : (Int × Int) => F_retraceref20_Routine_L3 p0 p1 s.1 s.2) (fun s : (Int × Int) => ⟨[(1, i64 p1), (2, .ptr 0 0), (5, i64 s.1), (6, i64 s.2)], [.blk 26 (T_api_Code.pvs p0)]⟩) r ((-1), 0) h ?_
  rintro ⟨x26, x27⟩ oo28 h f29
  replace h : F_retraceref20_Routine_L3 p0 p1 x26 x27 = some oo28 := h
  rw [F_retraceref20_Routine_L3] at h
  refine At.seq ?_
  refine At.seqJ (S := Bool) (fun s => ⟨[(1, i64 p1), (2, .ptr 0 0), (5, i64 x26), (6, i64 x27), (22, bo s)], [.blk 26 (T_api_Code.pvs p0)]⟩) (fun s => F_retraceref20_Routine_J1 p0 p1 x26 x27 s = some oo28) ?_ ?_
  · rcases tf (decide (x27 < ((p0.Defs).length : Int))) with b49 | b49
    · replace h := cond_t b49 h
      rcases tf (decide (0 ≤ p1)) with b50 | b50
      · replace h := cond_t b50 h
        refine At.region_end [1, 2, 5, 6, 22] [0] _ (st' := ⟨[(1, i64 p1), (2, .ptr 0 0), (5, i64 x26), (6, i64 x27), (22, bo (decide (p1 < ((p0.Ins).length : Int))))], [.blk 26 (T_api_Code.pvs p0)]⟩) (tips := [(5, { orc := .val (.bool true) }), (9, { orc := .val (.bool true) })]) (by kernel_rfl) (allc (congrArg D.bool b49) (allc (congrArg D.bool b50) all0)) (fun a w hs => ⟨(decide (p1 < ((p0.Ins).length : Int))), h, hs⟩)
      · replace h := cond_f b50 h
        refine At.region_end [1, 2, 5, 6, 22] [0] _ (st' := ⟨[(1, i64 p1), (2, .ptr 0 0), (5, i64 x26), (6, i64 x27), (22, bo false)], [.blk 26 (T_api_Code.pvs p0)]⟩) (tips := [(5, { orc := .val (.bool true) }), (9, { orc := .val (.bool false) })]) (by kernel_rfl) (allc (congrArg D.bool b49) (allc (congrArg D.bool b50) all0)) (fun a w hs => ⟨false, h, hs⟩)
    · replace h := cond_f b49 h
      refine At.region_end [1, 2, 5, 6, 22] [0] _ (st' := ⟨[(1, i64 p1), (2, .ptr 0 0), (5, i64 x26), (6, i64 x27), (22, bo false)], [.blk 26 (T_api_Code.pvs p0)]⟩) (tips := [(5, { orc := .val (.bool false) })]) (by kernel_rfl) (allc (congrArg D.bool b49) all0) (fun a w hs => ⟨false, h, hs⟩)
  · intro x38 h
    replace h : F_retraceref20_Routine_J1 p0 p1 x26 x27 x38 = some oo28 := h
    rw [F_retraceref20_Routine_J1] at h
    refine At.cond x38 (by kernel_rfl) (fun b39 => ?_) (fun b39 => ?_)
    · replace h := cond_t b39 h
      refine At.nar [1, 2, 5, 6] [0] (st' := ⟨[(1, i64 p1), (2, .ptr 0 0), (5, i64 x26), (6, i64 x27)], [.blk 26 (T_api_Code.pvs p0)]⟩) (by kernel_rfl) ?_
      refine At.skip (norm ?_)
      refine At.seqJ (S := Int) (fun s => ⟨[(1, i64 p1), (2, .ptr 0 0), (5, i64 s), (6, i64 x27)], [.blk 26 (T_api_Code.pvs p0)]⟩) (fun s => F_retraceref20_Routine_J2 x27 s = some oo28) ?_ ?_
      · refine At.block ?_
        refine At.seq ?_
        obtain ⟨y45, hy45, h⟩ := bind_some h
        refine At.region_end [1, 2, 5, 6, 32] [0] _ (st' := ⟨[(1, i64 p1), (2, .ptr 0 0), (5, i64 x26), (6, i64 x27), (32, bo (decide (y45.Entry ≤ p1)))], [.blk 26 (T_api_Code.pvs p0)]⟩) (tips := [(3, { orc := .cells (T_api_Def.enc y45) })]) (by kernel_rfl) (allc (elemAt_of T_api_Def.enc_len hy45) all0) (norm ?_)
        refine At.cond (decide (y45.Entry ≤ p1)) (by kernel_rfl) (fun b46 => ?_) (fun b46 => ?_)
        · replace h := cond_t b46 h
          refine At.region_end [1, 2, 5, 6] [0] _ (st' := ⟨[(1, i64 p1), (2, .ptr 0 0), (5, i64 x27), (6, i64 x27)], [.blk 26 (T_api_Code.pvs p0)]⟩) (tips := []) (by kernel_rfl) all0 (fun a w hs => ⟨x27, h, hs⟩)
        · replace h := cond_f b46 h
          refine At.nar [1, 2, 5, 6] [0] (st' := ⟨[(1, i64 p1), (2, .ptr 0 0), (5, i64 x26), (6, i64 x27)], [.blk 26 (T_api_Code.pvs p0)]⟩) (by kernel_rfl) ?_
          refine At.skip (fun a w hs => ⟨x26, h, hs⟩)
      · intro x43 h
        replace h : F_retraceref20_Routine_J2 x27 x43 = some oo28 := h
        rw [F_retraceref20_Routine_J2] at h
        refine At.region_end [1, 2, 5, 6] [0] _ (st' := ⟨[(1, i64 p1), (2, .ptr 0 0), (5, i64 x43), (6, i64 (w64 (x27 + 1)))], [.blk 26 (T_api_Code.pvs p0)]⟩) (tips := []) (by kernel_rfl) all0 (fun a w hs => ⟨_, (some_eq h).symm, hs⟩)
    · replace h := cond_f b39 h
      refine At.nar [5] [] (st' := ⟨[(5, i64 x26)], []⟩) (by kernel_rfl) ?_
      obtain ⟨r47, h, e48⟩ := map_inr h
      rw [f29 _ e48] at h
      refine At.exit (norm ?_)
      refine At.seq ?_
      refine At.region_end [4] [] _ (st' := ⟨[(4, i64 x26)], []⟩) (tips := []) (by kernel_rfl) all0 (norm ?_)
      obtain rfl := some_eq h
      exact At.ret fun a w hs => ret_ok hR (ρ := []) (gs := []) (by kernel_rfl) all0 (by kernel_rfl) rfl rfl a w hs _ (.inl rfl)
set_option maxRecDepth 100000 in
theorem C_retraceref22_is (p0 : T_api_Code) (p1 : Int) (p2 : Int) (p3 : Int) (r : Bool) (h : F_retraceref22_is p0 p1 p2 p3 = some r) : FnOK Try.prog 44 [.agg (T_api_Code.pvs p0), i64 p1, i64 p2, i64 p3] [] (bo r) [] [] := by
  rw [F_retraceref22_is] at h
  refine FnOK.intro Try.func44 rfl (by kernel_rfl) (by kernel_rfl) fun E gv R hR => ?_
  refine At.seq ?_
  refine At.region_end [1, 2, 3, 4] [0] _ (st' := ⟨[(1, i64 p1), (2, i64 p2), (3, i64 p3), (4, .ptr 0 0)], [.blk 26 (T_api_Code.pvs p0)]⟩) (tips := []) (by kernel_rfl) all0 (norm ?_)
  refine At.seqJ (S := Bool) (fun s => ⟨[(8, bo s)], []⟩) (fun s => F_retraceref22_is_J1 s = some r) ?_ ?_
  · obtain ⟨y6, hy6, h⟩ := bind_some h
    rcases tf (y6 == p1) with b7 | b7
    · replace h := cond_t b7 h
      rcases tf (decide (0 ≤ p1)) with b8 | b8
      · replace h := cond_t b8 h
        obtain ⟨y9, hy9, h⟩ := bind_some h
        refine At.region_end [8] [] _ (st' := ⟨[(8, bo (y9.Op == p3))], []⟩) (tips := [(2, { pc := some { ρ := [], n0 := 0, res := i64 y6, σ' := [], e := [] } }), (5, { orc := .val (.bool true) }), (9, { orc := .val (.bool true) }), (13, { orc := .cells (T_api_Ins.enc y9) })]) (by kernel_rfl) (allc (C_retraceref20_Routine p0 p2 y6 hy6) (allc (congrArg D.bool b7) (allc (congrArg D.bool b8) (allc (elemAt_of T_api_Ins.enc_len hy9) all0)))) (fun a w hs => ⟨(y9.Op == p3), h, hs⟩)
      · replace h := cond_f b8 h
        refine At.region_end [8] [] _ (st' := ⟨[(8, bo false)], []⟩) (tips := [(2, { pc := some { ρ := [], n0 := 0, res := i64 y6, σ' := [], e := [] } }), (5, { orc := .val (.bool true) }), (9, { orc := .val (.bool false) })]) (by kernel_rfl) (allc (C_retraceref20_Routine p0 p2 y6 hy6) (allc (congrArg D.bool b7) (allc (congrArg D.bool b8) all0))) (fun a w hs => ⟨false, h, hs⟩)
    · replace h := cond_f b7 h
      refine At.region_end [8] [] _ (st' := ⟨[(8, bo false)], []⟩) (tips := [(2, { pc := some { ρ := [], n0 := 0, res := i64 y6, σ' := [], e := [] } }), (5, { orc := .val (.bool false) })]) (by kernel_rfl) (allc (C_retraceref20_Routine p0 p2 y6 hy6) (allc (congrArg D.bool b7) all0)) (fun a w hs => ⟨false, h, hs⟩)
  · intro x5 h
    replace h : F_retraceref22_is_J1 x5 = some r := h
    rw [F_retraceref22_is_J1] at h
    obtain rfl := some_eq h
    exact At.ret fun a w hs => ret_ok hR (ρ := []) (gs := []) (by kernel_rfl) all0 (by kernel_rfl) rfl rfl a w hs _ (.inl rfl)
set_option maxRecDepth 100000 in
theorem C_retraceref22_Rests (p0 : T_api_Code) (p1 : Int) (p2 : Int) (r : Bool) (h : F_retraceref22_Rests p0 p1 p2 = some r) : FnOK Try.prog 45 [.agg (T_api_Code.pvs p0), i64 p1, i64 p2] [] (bo r) [] [] := by
  rw [F_retraceref22_Rests] at h
  refine FnOK.intro Try.func45 rfl (by kernel_rfl) (by kernel_rfl) fun E gv R hR => ?_
  refine At.seq ?_
  refine At.region_end [1, 2, 3] [0] _ (st' := ⟨[(1, i64 p1), (2, i64 p2), (3, .ptr 0 0)], [.blk 26 (T_api_Code.pvs p0)]⟩) (tips := []) (by kernel_rfl) all0 (norm ?_)
  refine At.seqJ (S := Bool) (fun s => ⟨[(6, bo s)], []⟩) (fun s => F_retraceref22_Rests_J1 s = some r) ?_ ?_
  · obtain ⟨y5, hy5, h⟩ := bind_some h
    rcases tf y5 with b6 | b6
    · replace h := cond_t b6 h
      refine At.region_end [6] [] _ (st' := ⟨[(6, bo true)], []⟩) (tips := [(3, { pc := some { ρ := [], n0 := 0, res := bo y5, σ' := [], e := [] } }), (4, { orc := .val (.bool true) })]) (by kernel_rfl) (allc (C_retraceref22_is p0 p1 p2 1 y5 hy5) (allc (congrArg D.bool b6) all0)) (fun a w hs => ⟨true, h, hs⟩)
    · replace h := cond_f b6 h
      obtain ⟨y7, hy7, h⟩ := bind_some h
      refine At.region_end [6] [] _ (st' := ⟨[(6, bo y7)], []⟩) (tips := [(3, { pc := some { ρ := [], n0 := 0, res := bo y5, σ' := [], e := [] } }), (4, { orc := .val (.bool false) }), (8, { pc := some { ρ := [], n0 := 0, res := bo y7, σ' := [], e := [] } })]) (by kernel_rfl) (allc (C_retraceref22_is p0 p1 p2 1 y5 hy5) (allc (congrArg D.bool b6) (allc (C_retraceref22_is p0 p1 p2 24 y7 hy7) all0))) (fun a w hs => ⟨y7, h, hs⟩)
  · intro x4 h
    replace h : F_retraceref22_Rests_J1 x4 = some r := h
    rw [F_retraceref22_Rests_J1] at h
    obtain rfl := some_eq h
    exact At.ret fun a w hs => ret_ok hR (ρ := []) (gs := []) (by kernel_rfl) all0 (by kernel_rfl) rfl rfl a w hs _ (.inl rfl)
set_option maxRecDepth 100000 in
theorem C_retraceref22_Chans (p0 : T_api_Code) (r : Int) (h : F_retraceref22_Chans p0 = some r) : FnOK Try.prog 46 [.agg (T_api_Code.pvs p0)] [] (i64 r) [] [] := by
  rw [F_retraceref22_Chans] at h
  refine FnOK.intro Try.func46 rfl (by kernel_rfl) (by kernel_rfl) fun E gv R hR => ?_
  refine At.seq ?_
  refine At.region_end [1] [0] _ (st' := ⟨[(1, .ptr 0 0)], [.blk 26 (T_api_Code.pvs p0)]⟩) (tips := []) (by kernel_rfl) all0 (norm ?_)
  refine At.seq ?_
  refine At.region_end [1, 3] [0] _ (st' := ⟨[(1, .ptr 0 0), (3, i64 0)], [.blk 26 (T_api_Code.pvs p0)]⟩) (tips := []) (by kernel_rfl) all0 (norm ?_)
  refine At.seq ?_
  refine At.seq ?_
  refine At.region_end [1, 3, 4] [0] _ (st' := ⟨[(1, .ptr 0 0), (3, i64 0), (4, i64 0)], [.blk 26 (T_api_Code.pvs p0)]⟩) (tips := []) (by kernel_rfl) all0 (norm ?_)
  refine At.block ?_
  refine At.loop (fun s : (Int × Int) => F_retraceref22_Chans_L2 p0 s.1 s.2) (fun s : (Int × Int) => ⟨[(1, .ptr 0 0), (3, i64 s.1), (4, i64 s.2)], [.blk 26 (T_api_Code.pvs p0)]⟩) r (0, 0) h ?_
  rintro ⟨x18, x19⟩ oo20 h f21
  replace h : F_retraceref22_Chans_L2 p0 x18 x19 = some oo20 := h
  rw [F_retraceref22_Chans_L2] at h
  refine At.seq ?_
  refine At.seq ?_
  refine At.region_end [1, 3, 4, 9] [0] _ (st' := ⟨[(1, .ptr 0 0), (3, i64 x18), (4, i64 x19), (9, bo (decide (x19 < ((p0.Chans).length : Int))))], [.blk 26 (T_api_Code.pvs p0)]⟩) (tips := []) (by kernel_rfl) all0 (norm ?_)
  refine At.cond (decide (x19 < ((p0.Chans).length : Int))) (by kernel_rfl) (fun b23 => ?_) (fun b23 => ?_)
  · replace h := cond_t b23 h
    refine At.nar [1, 3, 4] [0] (st' := ⟨[(1, .ptr 0 0), (3, i64 x18), (4, i64 x19)], [.blk 26 (T_api_Code.pvs p0)]⟩) (by kernel_rfl) ?_
    refine At.skip (norm ?_)
    refine At.seqJ (S := Int) (fun s => ⟨[(1, .ptr 0 0), (3, i64 s), (4, i64 x19)], [.blk 26 (T_api_Code.pvs p0)]⟩) (fun s => F_retraceref22_Chans_J1 x19 s = some oo20) ?_ ?_
    · refine At.block ?_
      refine At.seq ?_
      obtain ⟨y30, hy30, h⟩ := bind_some h
      refine At.region_end [1, 3, 4, 18] [0] _ (st' := ⟨[(1, .ptr 0 0), (3, i64 x18), (4, i64 x19), (18, bo (decide (0 < y30.Size)))], [.blk 26 (T_api_Code.pvs p0)]⟩) (tips := [(3, { orc := .cells (T_api_Chan.enc y30) })]) (by kernel_rfl) (allc (elemAt_of T_api_Chan.enc_len hy30) all0) (norm ?_)
      refine At.cond (decide (0 < y30.Size)) (by kernel_rfl) (fun b31 => ?_) (fun b31 => ?_)
      · replace h := cond_t b31 h
        obtain ⟨y32, hy32, h⟩ := bind_some h
        refine At.region_end [1, 3, 4] [0] _ (st' := ⟨[(1, .ptr 0 0), (3, i64 (w64 (x18 + y32.Size))), (4, i64 x19)], [.blk 26 (T_api_Code.pvs p0)]⟩) (tips := [(4, { orc := .cells (T_api_Chan.enc y32) })]) (by kernel_rfl) (allc (elemAt_of T_api_Chan.enc_len hy32) all0) (fun a w hs => ⟨(w64 (x18 + y32.Size)), h, hs⟩)
      · replace h := cond_f b31 h
        refine At.region_end [1, 3, 4] [0] _ (st' := ⟨[(1, .ptr 0 0), (3, i64 (w64 (x18 + 1))), (4, i64 x19)], [.blk 26 (T_api_Code.pvs p0)]⟩) (tips := []) (by kernel_rfl) all0 (fun a w hs => ⟨(w64 (x18 + 1)), h, hs⟩)
    · intro x28 h
      replace h : F_retraceref22_Chans_J1 x19 x28 = some oo20 := h
      rw [F_retraceref22_Chans_J1] at h
      refine At.region_end [1, 3, 4] [0] _ (st' := ⟨[(1, .ptr 0 0), (3, i64 x28), (4, i64 (w64 (x19 + 1)))], [.blk 26 (T_api_Code.pvs p0)]⟩) (tips := []) (by kernel_rfl) all0 (fun a w hs => ⟨_, (some_eq h).symm, hs⟩)
  · replace h := cond_f b23 h
    refine At.nar [3] [] (st' := ⟨[(3, i64 x18)], []⟩) (by kernel_rfl) ?_
    obtain ⟨r33, h, e34⟩ := map_inr h
    rw [f21 _ e34] at h
    refine At.exit (norm ?_)
    refine At.seq ?_
    refine At.region_end [2] [] _ (st' := ⟨[(2, i64 x18)], []⟩) (tips := []) (by kernel_rfl) all0 (norm ?_)
    obtain rfl := some_eq h
    exact At.ret fun a w hs => ret_ok hR (ρ := []) (gs := []) (by kernel_rfl) all0 (by kernel_rfl) rfl rfl a w hs _ (.inl rfl)
set_option maxRecDepth 100000 in
theorem C_retraceref22_alt (p0 : T_api_Code) (p1 : T_api_Proc) (p2 : T_api_Alt) (r : Bool) (h : F_retraceref22_alt p0 p1 p2 = some r) : FnOK Try.prog 47 [.agg (T_api_Code.pvs p0), .agg (T_api_Proc.pvs p1), .agg (T_api_Alt.pvs p2)] [] (bo r) [] [] := by
  rw [F_retraceref22_alt] at h
  refine FnOK.intro Try.func47 rfl (by kernel_rfl) (by kernel_rfl) fun E gv R hR => ?_
  refine At.seq ?_
  refine At.region_end [3, 4, 5] [0, 1, 2] _ (st' := ⟨[(3, .ptr 0 0), (4, .ptr 1 0), (5, .ptr 2 0)], [.blk 26 (T_api_Code.pvs p0), .blk 38 (T_api_Proc.pvs p1), .blk 51 (T_api_Alt.pvs p2)]⟩) (tips := []) (by kernel_rfl) all0 (norm ?_)
  refine At.seq ?_
  refine At.seq ?_
  obtain ⟨y5, hy5, h⟩ := bind_some h
  refine At.region_end [3, 4, 5, 13] [0, 1, 2] _ (st' := ⟨[(3, .ptr 0 0), (4, .ptr 1 0), (5, .ptr 2 0), (13, bo (!y5))], [.blk 26 (T_api_Code.pvs p0), .blk 38 (T_api_Proc.pvs p1), .blk 51 (T_api_Alt.pvs p2)]⟩) (tips := [(5, { pc := some { ρ := [], n0 := 0, res := bo y5, σ' := [], e := [] } })]) (by kernel_rfl) (allc (C_retraceref22_Rests p0 p1.Def p2.Goto y5 hy5) all0) (norm ?_)
  refine At.cond (!y5) (by kernel_rfl) (fun b6 => ?_) (fun b6 => ?_)
  · replace h := cond_t b6 h
    refine At.seq ?_
    refine At.region_end [6] [] _ (st' := ⟨[(6, bo false)], []⟩) (tips := []) (by kernel_rfl) all0 (norm ?_)
    obtain rfl := some_eq h
    exact At.ret fun a w hs => ret_ok hR (ρ := []) (gs := []) (by kernel_rfl) all0 (by kernel_rfl) rfl rfl a w hs _ (.inl rfl)
  · replace h := cond_f b6 h
    refine At.nar [3, 4, 5] [0, 1, 2] (st' := ⟨[(3, .ptr 0 0), (4, .ptr 1 0), (5, .ptr 2 0)], [.blk 26 (T_api_Code.pvs p0), .blk 38 (T_api_Proc.pvs p1), .blk 51 (T_api_Alt.pvs p2)]⟩) (by kernel_rfl) ?_
    refine At.skip (norm ?_)
    refine At.seq ?_
    refine At.seq ?_
    refine At.region_end [3, 4, 5, 15] [0, 1, 2] _ (st' := ⟨[(3, .ptr 0 0), (4, .ptr 1 0), (5, .ptr 2 0), (15, i64 p2.Kind)], [.blk 26 (T_api_Code.pvs p0), .blk 38 (T_api_Proc.pvs p1), .blk 51 (T_api_Alt.pvs p2)]⟩) (tips := []) (by kernel_rfl) all0 (norm ?_)
    refine At.block ?_
    refine At.seq ?_
    refine At.region_end [3, 4, 5, 15, 16] [0, 1, 2] _ (st' := ⟨[(3, .ptr 0 0), (4, .ptr 1 0), (5, .ptr 2 0), (15, i64 p2.Kind), (16, bo (p2.Kind == 1))], [.blk 26 (T_api_Code.pvs p0), .blk 38 (T_api_Proc.pvs p1), .blk 51 (T_api_Alt.pvs p2)]⟩) (tips := []) (by kernel_rfl) all0 (norm ?_)
    refine At.cond (p2.Kind == 1) (by kernel_rfl) (fun b35 => ?_) (fun b35 => ?_)
    · replace h := cond_t b35 h
      refine At.seqJ (S := Bool) (fun s => ⟨[(6, bo s)], []⟩) (fun s => F_retraceref22_alt_J1 s = some r) ?_ ?_
      · obtain ⟨y42, hy42, h⟩ := bind_some h
        obtain ⟨y43, hy43, h⟩ := bind_some h
        rcases tf y43 with b44 | b44
        · replace h := cond_t b44 h
          obtain ⟨y45, hy45, h⟩ := bind_some h
          rcases tf y45 with b46 | b46
          · replace h := cond_t b46 h
            refine At.draw_end mixedOrd 0 [6] [] _ (st' := ⟨[(6, bo (p2.Val == 0))], []⟩) (tips := [(0, { r := 3 }), (1, { T := [2], r := 3 }), (2, { T := [0], r := 3 }), (3, { tip := { pc := some { ρ := [], n0 := 0, res := i64 y42, σ' := [], e := [] } }, r := 3 }), (4, { tip := { pc := some { ρ := [], n0 := 0, res := bo y43, σ' := [], e := [] } }, r := 3 }), (5, { tip := { orc := .val (.bool true) } }), (6, { r := 3 }), (7, { T := [2], r := 3 }), (8, { r := 3 }), (9, { T := [1], r := 3 }), (10, { r := 3 }), (11, { tip := { pc := some { ρ := [], n0 := 0, res := bo y45, σ' := [], e := [] } }, r := 3 }), (13, { tip := { orc := .val (.bool true) } }), (14, { r := 3 }), (15, { T := [2], r := 3 })]) (by kernel_rfl) (allc (C_retraceref22_Chans p0 y42 hy42) (allc (C_retraceref22_from p2.Chan y42 y43 hy43) (allc (congrArg D.bool b44) (allc (C_retraceref22_from p2.Slot ((p1.Vars).length : Int) y45 hy45) (allc (congrArg D.bool b46) all0))))) (fun a w hs => ⟨(p2.Val == 0), h, hs⟩)
          · replace h := cond_f b46 h
            refine At.draw_end mixedOrd 0 [6] [] _ (st' := ⟨[(6, bo false)], []⟩) (tips := [(0, { r := 3 }), (1, { T := [2], r := 3 }), (2, { T := [0], r := 3 }), (3, { tip := { pc := some { ρ := [], n0 := 0, res := i64 y42, σ' := [], e := [] } }, r := 3 }), (4, { tip := { pc := some { ρ := [], n0 := 0, res := bo y43, σ' := [], e := [] } }, r := 3 }), (5, { tip := { orc := .val (.bool true) } }), (6, { r := 3 }), (7, { T := [2], r := 3 }), (8, { r := 3 }), (9, { T := [1], r := 3 }), (10, { r := 3 }), (11, { tip := { pc := some { ρ := [], n0 := 0, res := bo y45, σ' := [], e := [] } }, r := 3 }), (13, { tip := { orc := .val (.bool false) } }), (14, { r := 3 })]) (by kernel_rfl) (allc (C_retraceref22_Chans p0 y42 hy42) (allc (C_retraceref22_from p2.Chan y42 y43 hy43) (allc (congrArg D.bool b44) (allc (C_retraceref22_from p2.Slot ((p1.Vars).length : Int) y45 hy45) (allc (congrArg D.bool b46) all0))))) (fun a w hs => ⟨false, h, hs⟩)
        · replace h := cond_f b44 h
          refine At.draw_end mixedOrd 0 [6] [] _ (st' := ⟨[(6, bo false)], []⟩) (tips := [(0, { r := 3 }), (1, { T := [2], r := 3 }), (2, { T := [0], r := 3 }), (3, { tip := { pc := some { ρ := [], n0 := 0, res := i64 y42, σ' := [], e := [] } }, r := 3 }), (4, { tip := { pc := some { ρ := [], n0 := 0, res := bo y43, σ' := [], e := [] } }, r := 3 }), (5, { tip := { orc := .val (.bool false) } }), (6, { r := 3 }), (8, { r := 3 }), (10, { r := 3 }), (11, { r := 3 }), (14, { r := 3 })]) (by kernel_rfl) (allc (C_retraceref22_Chans p0 y42 hy42) (allc (C_retraceref22_from p2.Chan y42 y43 hy43) (allc (congrArg D.bool b44) all0))) (fun a w hs => ⟨false, h, hs⟩)
      · intro x41 h
        replace h : F_retraceref22_alt_J1 x41 = some r := h
        rw [F_retraceref22_alt_J1] at h
        obtain rfl := some_eq h
        exact At.ret fun a w hs => ret_ok hR (ρ := []) (gs := []) (by kernel_rfl) all0 (by kernel_rfl) rfl rfl a w hs _ (.inl rfl)
    · replace h := cond_f b35 h
      refine At.seq ?_
      refine At.region_end [3, 5, 15, 36] [0, 2] _ (st' := ⟨[(3, .ptr 0 0), (5, .ptr 1 0), (15, i64 p2.Kind), (36, bo (p2.Kind == 2))], [.blk 26 (T_api_Code.pvs p0), .blk 51 (T_api_Alt.pvs p2)]⟩) (tips := []) (by kernel_rfl) all0 (norm ?_)
      refine At.cond (p2.Kind == 2) (by kernel_rfl) (fun b47 => ?_) (fun b47 => ?_)
      · replace h := cond_t b47 h
        refine At.seqJ (S := Bool) (fun s => ⟨[(6, bo s)], []⟩) (fun s => F_retraceref22_alt_J2 s = some r) ?_ ?_
        · obtain ⟨y52, hy52, h⟩ := bind_some h
          obtain ⟨y53, hy53, h⟩ := bind_some h
          rcases tf y53 with b54 | b54
          · replace h := cond_t b54 h
            refine At.draw_end mixedOrd 0 [6] [] _ (st' := ⟨[(6, bo (p2.Slot == 0))], []⟩) (tips := [(0, { r := 2 }), (1, { T := [1], r := 2 }), (2, { T := [0], r := 2 }), (3, { tip := { pc := some { ρ := [], n0 := 0, res := i64 y52, σ' := [], e := [] } }, r := 2 }), (4, { tip := { pc := some { ρ := [], n0 := 0, res := bo y53, σ' := [], e := [] } }, r := 2 }), (5, { tip := { orc := .val (.bool true) } }), (6, { r := 2 }), (7, { T := [1], r := 2 })]) (by kernel_rfl) (allc (C_retraceref22_Chans p0 y52 hy52) (allc (C_retraceref22_from p2.Chan y52 y53 hy53) (allc (congrArg D.bool b54) all0))) (fun a w hs => ⟨(p2.Slot == 0), h, hs⟩)
          · replace h := cond_f b54 h
            refine At.draw_end mixedOrd 0 [6] [] _ (st' := ⟨[(6, bo false)], []⟩) (tips := [(0, { r := 2 }), (1, { T := [1], r := 2 }), (2, { T := [0], r := 2 }), (3, { tip := { pc := some { ρ := [], n0 := 0, res := i64 y52, σ' := [], e := [] } }, r := 2 }), (4, { tip := { pc := some { ρ := [], n0 := 0, res := bo y53, σ' := [], e := [] } }, r := 2 }), (5, { tip := { orc := .val (.bool false) } }), (6, { r := 2 })]) (by kernel_rfl) (allc (C_retraceref22_Chans p0 y52 hy52) (allc (C_retraceref22_from p2.Chan y52 y53 hy53) (allc (congrArg D.bool b54) all0))) (fun a w hs => ⟨false, h, hs⟩)
        · intro x51 h
          replace h : F_retraceref22_alt_J2 x51 = some r := h
          rw [F_retraceref22_alt_J2] at h
          obtain rfl := some_eq h
          exact At.ret fun a w hs => ret_ok hR (ρ := []) (gs := []) (by kernel_rfl) all0 (by kernel_rfl) rfl rfl a w hs _ (.inl rfl)
      · replace h := cond_f b47 h
        refine At.seq ?_
        refine At.region_end [5, 48] [1] _ (st' := ⟨[(5, .ptr 0 0), (48, bo (p2.Kind == 3))], [.blk 51 (T_api_Alt.pvs p2)]⟩) (tips := []) (by kernel_rfl) all0 (norm ?_)
        refine At.cond (p2.Kind == 3) (by kernel_rfl) (fun b55 => ?_) (fun b55 => ?_)
        · replace h := cond_t b55 h
          refine At.seqJ (S := Bool) (fun s => ⟨[(6, bo s)], []⟩) (fun s => F_retraceref22_alt_J3 s = some r) ?_ ?_
          · obtain ⟨y60, hy60, h⟩ := bind_some h
            rcases tf y60 with b61 | b61
            · replace h := cond_t b61 h
              rcases tf (p2.Chan == 0) with b62 | b62
              · replace h := cond_t b62 h
                refine At.region_end [6] [] _ (st' := ⟨[(6, bo (p2.Slot == 0))], []⟩) (tips := [(2, { pc := some { ρ := [], n0 := 0, res := bo y60, σ' := [], e := [] } }), (3, { orc := .val (.bool true) }), (8, { orc := .val (.bool true) })]) (by kernel_rfl) (allc (C_retraceref22_from p2.Val 1099511627777 y60 hy60) (allc (congrArg D.bool b61) (allc (congrArg D.bool b62) all0))) (fun a w hs => ⟨(p2.Slot == 0), h, hs⟩)
              · replace h := cond_f b62 h
                refine At.region_end [6] [] _ (st' := ⟨[(6, bo false)], []⟩) (tips := [(2, { pc := some { ρ := [], n0 := 0, res := bo y60, σ' := [], e := [] } }), (3, { orc := .val (.bool true) }), (8, { orc := .val (.bool false) })]) (by kernel_rfl) (allc (C_retraceref22_from p2.Val 1099511627777 y60 hy60) (allc (congrArg D.bool b61) (allc (congrArg D.bool b62) all0))) (fun a w hs => ⟨false, h, hs⟩)
            · replace h := cond_f b61 h
              refine At.region_end [6] [] _ (st' := ⟨[(6, bo false)], []⟩) (tips := [(2, { pc := some { ρ := [], n0 := 0, res := bo y60, σ' := [], e := [] } }), (3, { orc := .val (.bool false) })]) (by kernel_rfl) (allc (C_retraceref22_from p2.Val 1099511627777 y60 hy60) (allc (congrArg D.bool b61) all0)) (fun a w hs => ⟨false, h, hs⟩)
          · intro x59 h
            replace h : F_retraceref22_alt_J3 x59 = some r := h
            rw [F_retraceref22_alt_J3] at h
            obtain rfl := some_eq h
            exact At.ret fun a w hs => ret_ok hR (ρ := []) (gs := []) (by kernel_rfl) all0 (by kernel_rfl) rfl rfl a w hs _ (.inl rfl)
        · replace h := cond_f b55 h
          refine At.nar [] [] (st' := ⟨[], []⟩) (by kernel_rfl) ?_
          refine At.skip (norm ?_)
          refine At.seq ?_
          refine At.region_end [6] [] _ (st' := ⟨[(6, bo false)], []⟩) (tips := []) (by kernel_rfl) all0 (norm ?_)
          obtain rfl := some_eq h
          exact At.ret fun a w hs => ret_ok hR (ρ := []) (gs := []) (by kernel_rfl) all0 (by kernel_rfl) rfl rfl a w hs _ (.inl rfl)
set_option maxRecDepth 100000 in
theorem C_retraceref22_Is (p0 : T_api_Code) (p1 : T_api_Proc) (r : Bool) (h : F_retraceref22_Is p0 p1 = some r) : FnOK Try.prog 22 [.agg (T_api_Code.pvs p0), .agg (T_api_Proc.pvs p1)] [] (bo r) [] [] := by
  rw [F_retraceref22_Is] at h
  refine FnOK.intro Try.func22 rfl (by kernel_rfl) (by kernel_rfl) fun E gv R hR => ?_
  refine At.seq ?_
  refine At.region_end [2, 3] [0, 1] _ (st' := ⟨[(2, .ptr 0 0), (3, .ptr 1 0)], [.blk 26 (T_api_Code.pvs p0), .blk 38 (T_api_Proc.pvs p1)]⟩) (tips := []) (by kernel_rfl) all0 (norm ?_)
  refine At.seq ?_
  refine At.seqJ (S := Bool) (fun s => ⟨[(2, .ptr 0 0), (3, .ptr 1 0), (38, bo s)], [.blk 26 (T_api_Code.pvs p0), .blk 38 (T_api_Proc.pvs p1)]⟩) (fun s => F_retraceref22_Is_J1 p0 p1 s = some r) ?_ ?_
  · obtain ⟨y309, hy309, h⟩ := bind_some h
    rcases tf (!y309) with b310 | b310
    · replace h := cond_t b310 h
      refine At.draw_end mixedOrd 0 [2, 3, 38] [0, 1] _ (st' := ⟨[(2, .ptr 0 0), (3, .ptr 1 0), (38, bo true)], [.blk 26 (T_api_Code.pvs p0), .blk 38 (T_api_Proc.pvs p1)]⟩) (tips := [(0, { r := 2 }), (1, { T := [1], r := 2 }), (2, { r := 2 }), (3, { T := [0], r := 2 }), (4, { r := 2 }), (5, { tip := { pc := some { ρ := [], n0 := 0, res := bo y309, σ' := [], e := [] } }, r := 2 }), (7, { tip := { orc := .val (.bool true) } }), (8, { r := 2 }), (10, { r := 2 }), (11, { r := 2 }), (13, { r := 2 }), (21, { r := 2 }), (23, { r := 2 }), (27, { r := 2 }), (29, { r := 2 })]) (by kernel_rfl) (allc (C_retraceref22_from p1.Def ((p0.Defs).length : Int) y309 hy309) (allc (congrArg D.bool b310) all0)) (fun a w hs => ⟨true, h, hs⟩)
    · replace h := cond_f b310 h
      obtain ⟨y311, hy311, h⟩ := bind_some h
      rcases tf (((p1.Vars).length : Int) != y311.Vars) with b312 | b312
      · replace h := cond_t b312 h
        refine At.draw_end mixedOrd 0 [2, 3, 38] [0, 1] _ (st' := ⟨[(2, .ptr 0 0), (3, .ptr 1 0), (38, bo true)], [.blk 26 (T_api_Code.pvs p0), .blk 38 (T_api_Proc.pvs p1)]⟩) (tips := [(0, { r := 2 }), (1, { T := [1], r := 2 }), (2, { r := 2 }), (3, { T := [0], r := 2 }), (4, { r := 2 }), (5, { tip := { pc := some { ρ := [], n0 := 0, res := bo y309, σ' := [], e := [] } }, r := 2 }), (7, { tip := { orc := .val (.bool false) } }), (8, { r := 2 }), (9, { T := [1], r := 2 }), (10, { r := 2 }), (11, { r := 2 }), (12, { T := [0], r := 2 }), (13, { r := 2 }), (14, { T := [1], r := 2 }), (15, { tip := { orc := .cells (T_api_Def.enc y311) } }), (20, { tip := { orc := .val (.bool true) } }), (21, { r := 2 }), (23, { r := 2 }), (27, { r := 2 }), (29, { r := 2 })]) (by kernel_rfl) (allc (C_retraceref22_from p1.Def ((p0.Defs).length : Int) y309 hy309) (allc (congrArg D.bool b310) (allc (elemAt_of T_api_Def.enc_len hy311) (allc (congrArg D.bool b312) all0)))) (fun a w hs => ⟨true, h, hs⟩)
      · replace h := cond_f b312 h
        obtain ⟨y313, hy313, h⟩ := bind_some h
        rcases tf (!y313) with b314 | b314
        · replace h := cond_t b314 h
          refine At.draw_end mixedOrd 0 [2, 3, 38] [0, 1] _ (st' := ⟨[(2, .ptr 0 0), (3, .ptr 1 0), (38, bo true)], [.blk 26 (T_api_Code.pvs p0), .blk 38 (T_api_Proc.pvs p1)]⟩) (tips := [(0, { r := 2 }), (1, { T := [1], r := 2 }), (2, { r := 2 }), (3, { T := [0], r := 2 }), (4, { r := 2 }), (5, { tip := { pc := some { ρ := [], n0 := 0, res := bo y309, σ' := [], e := [] } }, r := 2 }), (7, { tip := { orc := .val (.bool false) } }), (8, { r := 2 }), (9, { T := [1], r := 2 }), (10, { r := 2 }), (11, { r := 2 }), (12, { T := [0], r := 2 }), (13, { r := 2 }), (14, { T := [1], r := 2 }), (15, { tip := { orc := .cells (T_api_Def.enc y311) } }), (20, { tip := { orc := .val (.bool false) } }), (21, { r := 2 }), (22, { T := [1], r := 2 }), (23, { tip := { pc := some { ρ := [], n0 := 0, res := bo y313, σ' := [], e := [] } }, r := 2 }), (26, { tip := { orc := .val (.bool true) } }), (27, { r := 2 }), (29, { r := 2 })]) (by kernel_rfl) (allc (C_retraceref22_from p1.Def ((p0.Defs).length : Int) y309 hy309) (allc (congrArg D.bool b310) (allc (elemAt_of T_api_Def.enc_len hy311) (allc (congrArg D.bool b312) (allc (C_retraceref22_from p1.Fuel 1048577 y313 hy313) (allc (congrArg D.bool b314) all0)))))) (fun a w hs => ⟨true, h, hs⟩)
        · replace h := cond_f b314 h
          obtain ⟨y315, hy315, h⟩ := bind_some h
          refine At.draw_end mixedOrd 0 [2, 3, 38] [0, 1] _ (st' := ⟨[(2, .ptr 0 0), (3, .ptr 1 0), (38, bo (!y315))], [.blk 26 (T_api_Code.pvs p0), .blk 38 (T_api_Proc.pvs p1)]⟩) (tips := [(0, { r := 2 }), (1, { T := [1], r := 2 }), (2, { r := 2 }), (3, { T := [0], r := 2 }), (4, { r := 2 }), (5, { tip := { pc := some { ρ := [], n0 := 0, res := bo y309, σ' := [], e := [] } }, r := 2 }), (7, { tip := { orc := .val (.bool false) } }), (8, { r := 2 }), (9, { T := [1], r := 2 }), (10, { r := 2 }), (11, { r := 2 }), (12, { T := [0], r := 2 }), (13, { r := 2 }), (14, { T := [1], r := 2 }), (15, { tip := { orc := .cells (T_api_Def.enc y311) } }), (20, { tip := { orc := .val (.bool false) } }), (21, { r := 2 }), (22, { T := [1], r := 2 }), (23, { tip := { pc := some { ρ := [], n0 := 0, res := bo y313, σ' := [], e := [] } }, r := 2 }), (26, { tip := { orc := .val (.bool false) } }), (27, { r := 2 }), (28, { T := [1], r := 2 }), (29, { tip := { pc := some { ρ := [], n0 := 0, res := bo y315, σ' := [], e := [] } }, r := 2 })]) (by kernel_rfl) (allc (C_retraceref22_from p1.Def ((p0.Defs).length : Int) y309 hy309) (allc (congrArg D.bool b310) (allc (elemAt_of T_api_Def.enc_len hy311) (allc (congrArg D.bool b312) (allc (C_retraceref22_from p1.Fuel 1048577 y313 hy313) (allc (congrArg D.bool b314) (allc (C_retraceref22_from p1.Since 1099511627777 y315 hy315) all0))))))) (fun a w hs => ⟨(!y315), h, hs⟩)
  · intro x24 h
    replace h : F_retraceref22_Is_J1 p0 p1 x24 = some r := h
    rw [F_retraceref22_Is_J1] at h
    refine At.cond x24 (by kernel_rfl) (fun b25 => ?_) (fun b25 => ?_)
    · replace h := cond_t b25 h
      refine At.seq ?_
      refine At.region_end [4] [] _ (st' := ⟨[(4, bo false)], []⟩) (tips := []) (by kernel_rfl) all0 (norm ?_)
      obtain rfl := some_eq h
      exact At.ret fun a w hs => ret_ok hR (ρ := []) (gs := []) (by kernel_rfl) all0 (by kernel_rfl) rfl rfl a w hs _ (.inl rfl)
    · replace h := cond_f b25 h
      refine At.nar [2, 3] [0, 1] (st' := ⟨[(2, .ptr 0 0), (3, .ptr 1 0)], [.blk 26 (T_api_Code.pvs p0), .blk 38 (T_api_Proc.pvs p1)]⟩) (by kernel_rfl) ?_
      refine At.skip (norm ?_)
      refine At.seqJ (S := Bool) (fun s => ⟨[(2, .ptr 0 0), (3, .ptr 1 0), (5, bo s)], [.blk 26 (T_api_Code.pvs p0), .blk 38 (T_api_Proc.pvs p1)]⟩) (fun s => F_retraceref22_Is_J2 p0 p1 s = some r) ?_ ?_
      · rcases tf (p1.Mode == 1) with b308 | b308
        · replace h := cond_t b308 h
          refine At.region_end [2, 3, 5] [0, 1] _ (st' := ⟨[(2, .ptr 0 0), (3, .ptr 1 0), (5, bo true)], [.blk 26 (T_api_Code.pvs p0), .blk 38 (T_api_Proc.pvs p1)]⟩) (tips := [(3, { orc := .val (.bool true) })]) (by kernel_rfl) (allc (congrArg D.bool b308) all0) (fun a w hs => ⟨true, h, hs⟩)
        · replace h := cond_f b308 h
          refine At.region_end [2, 3, 5] [0, 1] _ (st' := ⟨[(2, .ptr 0 0), (3, .ptr 1 0), (5, bo (p1.Mode == 2))], [.blk 26 (T_api_Code.pvs p0), .blk 38 (T_api_Proc.pvs p1)]⟩) (tips := [(3, { orc := .val (.bool false) })]) (by kernel_rfl) (allc (congrArg D.bool b308) all0) (fun a w hs => ⟨(p1.Mode == 2), h, hs⟩)
      · intro x27 h
        replace h : F_retraceref22_Is_J2 p0 p1 x27 = some r := h
        rw [F_retraceref22_Is_J2] at h
        refine At.seq ?_
        refine At.seqJ (S := Bool) (fun s => ⟨[(2, .ptr 0 0), (3, .ptr 1 0), (5, bo x27), (83, bo s)], [.blk 26 (T_api_Code.pvs p0), .blk 38 (T_api_Proc.pvs p1)]⟩) (fun s => F_retraceref22_Is_J3 p0 p1 x27 s = some r) ?_ ?_
        · rcases tf (!x27) with b286 | b286
          · replace h := cond_t b286 h
            rcases tf (p1.Chan != 0) with b287 | b287
            · replace h := cond_t b287 h
              refine At.region_end [2, 3, 5, 83] [0, 1] _ (st' := ⟨[(2, .ptr 0 0), (3, .ptr 1 0), (5, bo x27), (83, bo true)], [.blk 26 (T_api_Code.pvs p0), .blk 38 (T_api_Proc.pvs p1)]⟩) (tips := [(2, { orc := .val (.bool true) }), (7, { orc := .val (.bool true) })]) (by kernel_rfl) (allc (congrArg D.bool b286) (allc (congrArg D.bool b287) all0)) (fun a w hs => ⟨true, h, hs⟩)
            · replace h := cond_f b287 h
              rcases tf (p1.Mode != 1) with b288 | b288
              · replace h := cond_t b288 h
                rcases tf (p1.Val != 0) with b289 | b289
                · replace h := cond_t b289 h
                  refine At.region_end [2, 3, 5, 83] [0, 1] _ (st' := ⟨[(2, .ptr 0 0), (3, .ptr 1 0), (5, bo x27), (83, bo true)], [.blk 26 (T_api_Code.pvs p0), .blk 38 (T_api_Proc.pvs p1)]⟩) (tips := [(2, { orc := .val (.bool true) }), (7, { orc := .val (.bool false) }), (11, { orc := .val (.bool true) }), (17, { orc := .val (.bool true) })]) (by kernel_rfl) (allc (congrArg D.bool b286) (allc (congrArg D.bool b287) (allc (congrArg D.bool b288) (allc (congrArg D.bool b289) all0)))) (fun a w hs => ⟨true, h, hs⟩)
                · replace h := cond_f b289 h
                  rcases tf (p1.Mode != 2) with b290 | b290
                  · replace h := cond_t b290 h
                    rcases tf (p1.Slot != 0) with b291 | b291
                    · replace h := cond_t b291 h
                      refine At.region_end [2, 3, 5, 83] [0, 1] _ (st' := ⟨[(2, .ptr 0 0), (3, .ptr 1 0), (5, bo x27), (83, bo true)], [.blk 26 (T_api_Code.pvs p0), .blk 38 (T_api_Proc.pvs p1)]⟩) (tips := [(2, { orc := .val (.bool true) }), (7, { orc := .val (.bool false) }), (11, { orc := .val (.bool true) }), (17, { orc := .val (.bool false) }), (21, { orc := .val (.bool true) }), (27, { orc := .val (.bool true) })]) (by kernel_rfl) (allc (congrArg D.bool b286) (allc (congrArg D.bool b287) (allc (congrArg D.bool b288) (allc (congrArg D.bool b289) (allc (congrArg D.bool b290) (allc (congrArg D.bool b291) all0)))))) (fun a w hs => ⟨true, h, hs⟩)
                    · replace h := cond_f b291 h
                      rcases tf (p1.Mode != 4) with b292 | b292
                      · replace h := cond_t b292 h
                        refine At.region_end [2, 3, 5, 83] [0, 1] _ (st' := ⟨[(2, .ptr 0 0), (3, .ptr 1 0), (5, bo x27), (83, bo (p1.Until != 0))], [.blk 26 (T_api_Code.pvs p0), .blk 38 (T_api_Proc.pvs p1)]⟩) (tips := [(2, { orc := .val (.bool true) }), (7, { orc := .val (.bool false) }), (11, { orc := .val (.bool true) }), (17, { orc := .val (.bool false) }), (21, { orc := .val (.bool true) }), (27, { orc := .val (.bool false) }), (31, { orc := .val (.bool true) })]) (by kernel_rfl) (allc (congrArg D.bool b286) (allc (congrArg D.bool b287) (allc (congrArg D.bool b288) (allc (congrArg D.bool b289) (allc (congrArg D.bool b290) (allc (congrArg D.bool b291) (allc (congrArg D.bool b292) all0))))))) (fun a w hs => ⟨(p1.Until != 0), h, hs⟩)
                      · replace h := cond_f b292 h
                        refine At.region_end [2, 3, 5, 83] [0, 1] _ (st' := ⟨[(2, .ptr 0 0), (3, .ptr 1 0), (5, bo x27), (83, bo false)], [.blk 26 (T_api_Code.pvs p0), .blk 38 (T_api_Proc.pvs p1)]⟩) (tips := [(2, { orc := .val (.bool true) }), (7, { orc := .val (.bool false) }), (11, { orc := .val (.bool true) }), (17, { orc := .val (.bool false) }), (21, { orc := .val (.bool true) }), (27, { orc := .val (.bool false) }), (31, { orc := .val (.bool false) })]) (by kernel_rfl) (allc (congrArg D.bool b286) (allc (congrArg D.bool b287) (allc (congrArg D.bool b288) (allc (congrArg D.bool b289) (allc (congrArg D.bool b290) (allc (congrArg D.bool b291) (allc (congrArg D.bool b292) all0))))))) (fun a w hs => ⟨false, h, hs⟩)
                  · replace h := cond_f b290 h
                    rcases tf (p1.Mode != 4) with b293 | b293
                    · replace h := cond_t b293 h
                      refine At.region_end [2, 3, 5, 83] [0, 1] _ (st' := ⟨[(2, .ptr 0 0), (3, .ptr 1 0), (5, bo x27), (83, bo (p1.Until != 0))], [.blk 26 (T_api_Code.pvs p0), .blk 38 (T_api_Proc.pvs p1)]⟩) (tips := [(2, { orc := .val (.bool true) }), (7, { orc := .val (.bool false) }), (11, { orc := .val (.bool true) }), (17, { orc := .val (.bool false) }), (21, { orc := .val (.bool false) }), (31, { orc := .val (.bool true) })]) (by kernel_rfl) (allc (congrArg D.bool b286) (allc (congrArg D.bool b287) (allc (congrArg D.bool b288) (allc (congrArg D.bool b289) (allc (congrArg D.bool b290) (allc (congrArg D.bool b293) all0)))))) (fun a w hs => ⟨(p1.Until != 0), h, hs⟩)
                    · replace h := cond_f b293 h
                      refine At.region_end [2, 3, 5, 83] [0, 1] _ (st' := ⟨[(2, .ptr 0 0), (3, .ptr 1 0), (5, bo x27), (83, bo false)], [.blk 26 (T_api_Code.pvs p0), .blk 38 (T_api_Proc.pvs p1)]⟩) (tips := [(2, { orc := .val (.bool true) }), (7, { orc := .val (.bool false) }), (11, { orc := .val (.bool true) }), (17, { orc := .val (.bool false) }), (21, { orc := .val (.bool false) }), (31, { orc := .val (.bool false) })]) (by kernel_rfl) (allc (congrArg D.bool b286) (allc (congrArg D.bool b287) (allc (congrArg D.bool b288) (allc (congrArg D.bool b289) (allc (congrArg D.bool b290) (allc (congrArg D.bool b293) all0)))))) (fun a w hs => ⟨false, h, hs⟩)
              · replace h := cond_f b288 h
                rcases tf (p1.Mode != 2) with b294 | b294
                · replace h := cond_t b294 h
                  rcases tf (p1.Slot != 0) with b295 | b295
                  · replace h := cond_t b295 h
                    refine At.region_end [2, 3, 5, 83] [0, 1] _ (st' := ⟨[(2, .ptr 0 0), (3, .ptr 1 0), (5, bo x27), (83, bo true)], [.blk 26 (T_api_Code.pvs p0), .blk 38 (T_api_Proc.pvs p1)]⟩) (tips := [(2, { orc := .val (.bool true) }), (7, { orc := .val (.bool false) }), (11, { orc := .val (.bool false) }), (21, { orc := .val (.bool true) }), (27, { orc := .val (.bool true) })]) (by kernel_rfl) (allc (congrArg D.bool b286) (allc (congrArg D.bool b287) (allc (congrArg D.bool b288) (allc (congrArg D.bool b294) (allc (congrArg D.bool b295) all0))))) (fun a w hs => ⟨true, h, hs⟩)
                  · replace h := cond_f b295 h
                    rcases tf (p1.Mode != 4) with b296 | b296
                    · replace h := cond_t b296 h
                      refine At.region_end [2, 3, 5, 83] [0, 1] _ (st' := ⟨[(2, .ptr 0 0), (3, .ptr 1 0), (5, bo x27), (83, bo (p1.Until != 0))], [.blk 26 (T_api_Code.pvs p0), .blk 38 (T_api_Proc.pvs p1)]⟩) (tips := [(2, { orc := .val (.bool true) }), (7, { orc := .val (.bool false) }), (11, { orc := .val (.bool false) }), (21, { orc := .val (.bool true) }), (27, { orc := .val (.bool false) }), (31, { orc := .val (.bool true) })]) (by kernel_rfl) (allc (congrArg D.bool b286) (allc (congrArg D.bool b287) (allc (congrArg D.bool b288) (allc (congrArg D.bool b294) (allc (congrArg D.bool b295) (allc (congrArg D.bool b296) all0)))))) (fun a w hs => ⟨(p1.Until != 0), h, hs⟩)
                    · replace h := cond_f b296 h
                      refine At.region_end [2, 3, 5, 83] [0, 1] _ (st' := ⟨[(2, .ptr 0 0), (3, .ptr 1 0), (5, bo x27), (83, bo false)], [.blk 26 (T_api_Code.pvs p0), .blk 38 (T_api_Proc.pvs p1)]⟩) (tips := [(2, { orc := .val (.bool true) }), (7, { orc := .val (.bool false) }), (11, { orc := .val (.bool false) }), (21, { orc := .val (.bool true) }), (27, { orc := .val (.bool false) }), (31, { orc := .val (.bool false) })]) (by kernel_rfl) (allc (congrArg D.bool b286) (allc (congrArg D.bool b287) (allc (congrArg D.bool b288) (allc (congrArg D.bool b294) (allc (congrArg D.bool b295) (allc (congrArg D.bool b296) all0)))))) (fun a w hs => ⟨false, h, hs⟩)
                · replace h := cond_f b294 h
                  rcases tf (p1.Mode != 4) with b297 | b297
                  · replace h := cond_t b297 h
                    refine At.region_end [2, 3, 5, 83] [0, 1] _ (st' := ⟨[(2, .ptr 0 0), (3, .ptr 1 0), (5, bo x27), (83, bo (p1.Until != 0))], [.blk 26 (T_api_Code.pvs p0), .blk 38 (T_api_Proc.pvs p1)]⟩) (tips := [(2, { orc := .val (.bool true) }), (7, { orc := .val (.bool false) }), (11, { orc := .val (.bool false) }), (21, { orc := .val (.bool false) }), (31, { orc := .val (.bool true) })]) (by kernel_rfl) (allc (congrArg D.bool b286) (allc (congrArg D.bool b287) (allc (congrArg D.bool b288) (allc (congrArg D.bool b294) (allc (congrArg D.bool b297) all0))))) (fun a w hs => ⟨(p1.Until != 0), h, hs⟩)
                  · replace h := cond_f b297 h
                    refine At.region_end [2, 3, 5, 83] [0, 1] _ (st' := ⟨[(2, .ptr 0 0), (3, .ptr 1 0), (5, bo x27), (83, bo false)], [.blk 26 (T_api_Code.pvs p0), .blk 38 (T_api_Proc.pvs p1)]⟩) (tips := [(2, { orc := .val (.bool true) }), (7, { orc := .val (.bool false) }), (11, { orc := .val (.bool false) }), (21, { orc := .val (.bool false) }), (31, { orc := .val (.bool false) })]) (by kernel_rfl) (allc (congrArg D.bool b286) (allc (congrArg D.bool b287) (allc (congrArg D.bool b288) (allc (congrArg D.bool b294) (allc (congrArg D.bool b297) all0))))) (fun a w hs => ⟨false, h, hs⟩)
          · replace h := cond_f b286 h
            rcases tf (p1.Mode != 1) with b298 | b298
            · replace h := cond_t b298 h
              rcases tf (p1.Val != 0) with b299 | b299
              · replace h := cond_t b299 h
                refine At.region_end [2, 3, 5, 83] [0, 1] _ (st' := ⟨[(2, .ptr 0 0), (3, .ptr 1 0), (5, bo x27), (83, bo true)], [.blk 26 (T_api_Code.pvs p0), .blk 38 (T_api_Proc.pvs p1)]⟩) (tips := [(2, { orc := .val (.bool false) }), (11, { orc := .val (.bool true) }), (17, { orc := .val (.bool true) })]) (by kernel_rfl) (allc (congrArg D.bool b286) (allc (congrArg D.bool b298) (allc (congrArg D.bool b299) all0))) (fun a w hs => ⟨true, h, hs⟩)
              · replace h := cond_f b299 h
                rcases tf (p1.Mode != 2) with b300 | b300
                · replace h := cond_t b300 h
                  rcases tf (p1.Slot != 0) with b301 | b301
                  · replace h := cond_t b301 h
                    refine At.region_end [2, 3, 5, 83] [0, 1] _ (st' := ⟨[(2, .ptr 0 0), (3, .ptr 1 0), (5, bo x27), (83, bo true)], [.blk 26 (T_api_Code.pvs p0), .blk 38 (T_api_Proc.pvs p1)]⟩) (tips := [(2, { orc := .val (.bool false) }), (11, { orc := .val (.bool true) }), (17, { orc := .val (.bool false) }), (21, { orc := .val (.bool true) }), (27, { orc := .val (.bool true) })]) (by kernel_rfl) (allc (congrArg D.bool b286) (allc (congrArg D.bool b298) (allc (congrArg D.bool b299) (allc (congrArg D.bool b300) (allc (congrArg D.bool b301) all0))))) (fun a w hs => ⟨true, h, hs⟩)
                  · replace h := cond_f b301 h
                    rcases tf (p1.Mode != 4) with b302 | b302
                    · replace h := cond_t b302 h
                      refine At.region_end [2, 3, 5, 83] [0, 1] _ (st' := ⟨[(2, .ptr 0 0), (3, .ptr 1 0), (5, bo x27), (83, bo (p1.Until != 0))], [.blk 26 (T_api_Code.pvs p0), .blk 38 (T_api_Proc.pvs p1)]⟩) (tips := [(2, { orc := .val (.bool false) }), (11, { orc := .val (.bool true) }), (17, { orc := .val (.bool false) }), (21, { orc := .val (.bool true) }), (27, { orc := .val (.bool false) }), (31, { orc := .val (.bool true) })]) (by kernel_rfl) (allc (congrArg D.bool b286) (allc (congrArg D.bool b298) (allc (congrArg D.bool b299) (allc (congrArg D.bool b300) (allc (congrArg D.bool b301) (allc (congrArg D.bool b302) all0)))))) (fun a w hs => ⟨(p1.Until != 0), h, hs⟩)
                    · replace h := cond_f b302 h
                      refine At.region_end [2, 3, 5, 83] [0, 1] _ (st' := ⟨[(2, .ptr 0 0), (3, .ptr 1 0), (5, bo x27), (83, bo false)], [.blk 26 (T_api_Code.pvs p0), .blk 38 (T_api_Proc.pvs p1)]⟩) (tips := [(2, { orc := .val (.bool false) }), (11, { orc := .val (.bool true) }), (17, { orc := .val (.bool false) }), (21, { orc := .val (.bool true) }), (27, { orc := .val (.bool false) }), (31, { orc := .val (.bool false) })]) (by kernel_rfl) (allc (congrArg D.bool b286) (allc (congrArg D.bool b298) (allc (congrArg D.bool b299) (allc (congrArg D.bool b300) (allc (congrArg D.bool b301) (allc (congrArg D.bool b302) all0)))))) (fun a w hs => ⟨false, h, hs⟩)
                · replace h := cond_f b300 h
                  rcases tf (p1.Mode != 4) with b303 | b303
                  · replace h := cond_t b303 h
                    refine At.region_end [2, 3, 5, 83] [0, 1] _ (st' := ⟨[(2, .ptr 0 0), (3, .ptr 1 0), (5, bo x27), (83, bo (p1.Until != 0))], [.blk 26 (T_api_Code.pvs p0), .blk 38 (T_api_Proc.pvs p1)]⟩) (tips := [(2, { orc := .val (.bool false) }), (11, { orc := .val (.bool true) }), (17, { orc := .val (.bool false) }), (21, { orc := .val (.bool false) }), (31, { orc := .val (.bool true) })]) (by kernel_rfl) (allc (congrArg D.bool b286) (allc (congrArg D.bool b298) (allc (congrArg D.bool b299) (allc (congrArg D.bool b300) (allc (congrArg D.bool b303) all0))))) (fun a w hs => ⟨(p1.Until != 0), h, hs⟩)
                  · replace h := cond_f b303 h
                    refine At.region_end [2, 3, 5, 83] [0, 1] _ (st' := ⟨[(2, .ptr 0 0), (3, .ptr 1 0), (5, bo x27), (83, bo false)], [.blk 26 (T_api_Code.pvs p0), .blk 38 (T_api_Proc.pvs p1)]⟩) (tips := [(2, { orc := .val (.bool false) }), (11, { orc := .val (.bool true) }), (17, { orc := .val (.bool false) }), (21, { orc := .val (.bool false) }), (31, { orc := .val (.bool false) })]) (by kernel_rfl) (allc (congrArg D.bool b286) (allc (congrArg D.bool b298) (allc (congrArg D.bool b299) (allc (congrArg D.bool b300) (allc (congrArg D.bool b303) all0))))) (fun a w hs => ⟨false, h, hs⟩)
            · replace h := cond_f b298 h
              rcases tf (p1.Mode != 2) with b304 | b304
              · replace h := cond_t b304 h
                rcases tf (p1.Slot != 0) with b305 | b305
                · replace h := cond_t b305 h
                  refine At.region_end [2, 3, 5, 83] [0, 1] _ (st' := ⟨[(2, .ptr 0 0), (3, .ptr 1 0), (5, bo x27), (83, bo true)], [.blk 26 (T_api_Code.pvs p0), .blk 38 (T_api_Proc.pvs p1)]⟩) (tips := [(2, { orc := .val (.bool false) }), (11, { orc := .val (.bool false) }), (21, { orc := .val (.bool true) }), (27, { orc := .val (.bool true) })]) (by kernel_rfl) (allc (congrArg D.bool b286) (allc (congrArg D.bool b298) (allc (congrArg D.bool b304) (allc (congrArg D.bool b305) all0)))) (fun a w hs => ⟨true, h, hs⟩)
                · replace h := cond_f b305 h
                  rcases tf (p1.Mode != 4) with b306 | b306
                  · replace h := cond_t b306 h
                    refine At.region_end [2, 3, 5, 83] [0, 1] _ (st' := ⟨[(2, .ptr 0 0), (3, .ptr 1 0), (5, bo x27), (83, bo (p1.Until != 0))], [.blk 26 (T_api_Code.pvs p0), .blk 38 (T_api_Proc.pvs p1)]⟩) (tips := [(2, { orc := .val (.bool false) }), (11, { orc := .val (.bool false) }), (21, { orc := .val (.bool true) }), (27, { orc := .val (.bool false) }), (31, { orc := .val (.bool true) })]) (by kernel_rfl) (allc (congrArg D.bool b286) (allc (congrArg D.bool b298) (allc (congrArg D.bool b304) (allc (congrArg D.bool b305) (allc (congrArg D.bool b306) all0))))) (fun a w hs => ⟨(p1.Until != 0), h, hs⟩)
                  · replace h := cond_f b306 h
                    refine At.region_end [2, 3, 5, 83] [0, 1] _ (st' := ⟨[(2, .ptr 0 0), (3, .ptr 1 0), (5, bo x27), (83, bo false)], [.blk 26 (T_api_Code.pvs p0), .blk 38 (T_api_Proc.pvs p1)]⟩) (tips := [(2, { orc := .val (.bool false) }), (11, { orc := .val (.bool false) }), (21, { orc := .val (.bool true) }), (27, { orc := .val (.bool false) }), (31, { orc := .val (.bool false) })]) (by kernel_rfl) (allc (congrArg D.bool b286) (allc (congrArg D.bool b298) (allc (congrArg D.bool b304) (allc (congrArg D.bool b305) (allc (congrArg D.bool b306) all0))))) (fun a w hs => ⟨false, h, hs⟩)
              · replace h := cond_f b304 h
                rcases tf (p1.Mode != 4) with b307 | b307
                · replace h := cond_t b307 h
                  refine At.region_end [2, 3, 5, 83] [0, 1] _ (st' := ⟨[(2, .ptr 0 0), (3, .ptr 1 0), (5, bo x27), (83, bo (p1.Until != 0))], [.blk 26 (T_api_Code.pvs p0), .blk 38 (T_api_Proc.pvs p1)]⟩) (tips := [(2, { orc := .val (.bool false) }), (11, { orc := .val (.bool false) }), (21, { orc := .val (.bool false) }), (31, { orc := .val (.bool true) })]) (by kernel_rfl) (allc (congrArg D.bool b286) (allc (congrArg D.bool b298) (allc (congrArg D.bool b304) (allc (congrArg D.bool b307) all0)))) (fun a w hs => ⟨(p1.Until != 0), h, hs⟩)
                · replace h := cond_f b307 h
                  refine At.region_end [2, 3, 5, 83] [0, 1] _ (st' := ⟨[(2, .ptr 0 0), (3, .ptr 1 0), (5, bo x27), (83, bo false)], [.blk 26 (T_api_Code.pvs p0), .blk 38 (T_api_Proc.pvs p1)]⟩) (tips := [(2, { orc := .val (.bool false) }), (11, { orc := .val (.bool false) }), (21, { orc := .val (.bool false) }), (31, { orc := .val (.bool false) })]) (by kernel_rfl) (allc (congrArg D.bool b286) (allc (congrArg D.bool b298) (allc (congrArg D.bool b304) (allc (congrArg D.bool b307) all0)))) (fun a w hs => ⟨false, h, hs⟩)
        · intro x96 h
          replace h : F_retraceref22_Is_J3 p0 p1 x27 x96 = some r := h
          rw [F_retraceref22_Is_J3] at h
          refine At.cond x96 (by kernel_rfl) (fun b97 => ?_) (fun b97 => ?_)
          · replace h := cond_t b97 h
            refine At.seq ?_
            refine At.region_end [4] [] _ (st' := ⟨[(4, bo false)], []⟩) (tips := []) (by kernel_rfl) all0 (norm ?_)
            obtain rfl := some_eq h
            exact At.ret fun a w hs => ret_ok hR (ρ := []) (gs := []) (by kernel_rfl) all0 (by kernel_rfl) rfl rfl a w hs _ (.inl rfl)
          · replace h := cond_f b97 h
            refine At.nar [2, 3, 5] [0, 1] (st' := ⟨[(2, .ptr 0 0), (3, .ptr 1 0), (5, bo x27)], [.blk 26 (T_api_Code.pvs p0), .blk 38 (T_api_Proc.pvs p1)]⟩) (by kernel_rfl) ?_
            refine At.skip (norm ?_)
            refine At.seq ?_
            refine At.seqJ (S := Bool) (fun s => ⟨[(2, .ptr 0 0), (3, .ptr 1 0), (106, bo s)], [.blk 26 (T_api_Code.pvs p0), .blk 38 (T_api_Proc.pvs p1)]⟩) (fun s => F_retraceref22_Is_J4 p0 p1 s = some r) ?_ ?_
            · rcases tf (!x27) with b280 | b280
              · replace h := cond_t b280 h
                rcases tf (p1.Mode != 3) with b281 | b281
                · replace h := cond_t b281 h
                  rcases tf (p1.Since != 0) with b282 | b282
                  · replace h := cond_t b282 h
                    refine At.region_end [2, 3, 106] [0, 1] _ (st' := ⟨[(2, .ptr 0 0), (3, .ptr 1 0), (106, bo true)], [.blk 26 (T_api_Code.pvs p0), .blk 38 (T_api_Proc.pvs p1)]⟩) (tips := [(2, { orc := .val (.bool true) }), (7, { orc := .val (.bool true) }), (12, { orc := .val (.bool true) })]) (by kernel_rfl) (allc (congrArg D.bool b280) (allc (congrArg D.bool b281) (allc (congrArg D.bool b282) all0))) (fun a w hs => ⟨true, h, hs⟩)
                  · replace h := cond_f b282 h
                    rcases tf (p1.Mode != 3) with b283 | b283
                    · replace h := cond_t b283 h
                      refine At.region_end [2, 3, 106] [0, 1] _ (st' := ⟨[(2, .ptr 0 0), (3, .ptr 1 0), (106, bo (decide (0 < ((p1.Alts).length : Int))))], [.blk 26 (T_api_Code.pvs p0), .blk 38 (T_api_Proc.pvs p1)]⟩) (tips := [(2, { orc := .val (.bool true) }), (7, { orc := .val (.bool true) }), (12, { orc := .val (.bool false) }), (16, { orc := .val (.bool true) })]) (by kernel_rfl) (allc (congrArg D.bool b280) (allc (congrArg D.bool b281) (allc (congrArg D.bool b282) (allc (congrArg D.bool b283) all0)))) (fun a w hs => ⟨(decide (0 < ((p1.Alts).length : Int))), h, hs⟩)
                    · replace h := cond_f b283 h
                      refine At.region_end [2, 3, 106] [0, 1] _ (st' := ⟨[(2, .ptr 0 0), (3, .ptr 1 0), (106, bo false)], [.blk 26 (T_api_Code.pvs p0), .blk 38 (T_api_Proc.pvs p1)]⟩) (tips := [(2, { orc := .val (.bool true) }), (7, { orc := .val (.bool true) }), (12, { orc := .val (.bool false) }), (16, { orc := .val (.bool false) })]) (by kernel_rfl) (allc (congrArg D.bool b280) (allc (congrArg D.bool b281) (allc (congrArg D.bool b282) (allc (congrArg D.bool b283) all0)))) (fun a w hs => ⟨false, h, hs⟩)
                · replace h := cond_f b281 h
                  rcases tf (p1.Mode != 3) with b284 | b284
                  · replace h := cond_t b284 h
                    refine At.region_end [2, 3, 106] [0, 1] _ (st' := ⟨[(2, .ptr 0 0), (3, .ptr 1 0), (106, bo (decide (0 < ((p1.Alts).length : Int))))], [.blk 26 (T_api_Code.pvs p0), .blk 38 (T_api_Proc.pvs p1)]⟩) (tips := [(2, { orc := .val (.bool true) }), (7, { orc := .val (.bool false) }), (16, { orc := .val (.bool true) })]) (by kernel_rfl) (allc (congrArg D.bool b280) (allc (congrArg D.bool b281) (allc (congrArg D.bool b284) all0))) (fun a w hs => ⟨(decide (0 < ((p1.Alts).length : Int))), h, hs⟩)
                  · replace h := cond_f b284 h
                    refine At.region_end [2, 3, 106] [0, 1] _ (st' := ⟨[(2, .ptr 0 0), (3, .ptr 1 0), (106, bo false)], [.blk 26 (T_api_Code.pvs p0), .blk 38 (T_api_Proc.pvs p1)]⟩) (tips := [(2, { orc := .val (.bool true) }), (7, { orc := .val (.bool false) }), (16, { orc := .val (.bool false) })]) (by kernel_rfl) (allc (congrArg D.bool b280) (allc (congrArg D.bool b281) (allc (congrArg D.bool b284) all0))) (fun a w hs => ⟨false, h, hs⟩)
              · replace h := cond_f b280 h
                rcases tf (p1.Mode != 3) with b285 | b285
                · replace h := cond_t b285 h
                  refine At.region_end [2, 3, 106] [0, 1] _ (st' := ⟨[(2, .ptr 0 0), (3, .ptr 1 0), (106, bo (decide (0 < ((p1.Alts).length : Int))))], [.blk 26 (T_api_Code.pvs p0), .blk 38 (T_api_Proc.pvs p1)]⟩) (tips := [(2, { orc := .val (.bool false) }), (16, { orc := .val (.bool true) })]) (by kernel_rfl) (allc (congrArg D.bool b280) (allc (congrArg D.bool b285) all0)) (fun a w hs => ⟨(decide (0 < ((p1.Alts).length : Int))), h, hs⟩)
                · replace h := cond_f b285 h
                  refine At.region_end [2, 3, 106] [0, 1] _ (st' := ⟨[(2, .ptr 0 0), (3, .ptr 1 0), (106, bo false)], [.blk 26 (T_api_Code.pvs p0), .blk 38 (T_api_Proc.pvs p1)]⟩) (tips := [(2, { orc := .val (.bool false) }), (16, { orc := .val (.bool false) })]) (by kernel_rfl) (allc (congrArg D.bool b280) (allc (congrArg D.bool b285) all0)) (fun a w hs => ⟨false, h, hs⟩)
            · intro x118 h
              replace h : F_retraceref22_Is_J4 p0 p1 x118 = some r := h
              rw [F_retraceref22_Is_J4] at h
              refine At.cond x118 (by kernel_rfl) (fun b119 => ?_) (fun b119 => ?_)
              · replace h := cond_t b119 h
                refine At.seq ?_
                refine At.region_end [4] [] _ (st' := ⟨[(4, bo false)], []⟩) (tips := []) (by kernel_rfl) all0 (norm ?_)
                obtain rfl := some_eq h
                exact At.ret fun a w hs => ret_ok hR (ρ := []) (gs := []) (by kernel_rfl) all0 (by kernel_rfl) rfl rfl a w hs _ (.inl rfl)
              · replace h := cond_f b119 h
                refine At.nar [2, 3] [0, 1] (st' := ⟨[(2, .ptr 0 0), (3, .ptr 1 0)], [.blk 26 (T_api_Code.pvs p0), .blk 38 (T_api_Proc.pvs p1)]⟩) (by kernel_rfl) ?_
                refine At.skip (norm ?_)
                refine At.seq ?_
                refine At.seq ?_
                refine At.region_end [2, 3, 108] [0, 1] _ (st' := ⟨[(2, .ptr 0 0), (3, .ptr 1 0), (108, i64 p1.Mode)], [.blk 26 (T_api_Code.pvs p0), .blk 38 (T_api_Proc.pvs p1)]⟩) (tips := []) (by kernel_rfl) all0 (norm ?_)
                refine At.block ?_
                refine At.seqJ (S := Bool) (fun s => ⟨[(2, .ptr 0 0), (3, .ptr 1 0), (108, i64 p1.Mode), (109, bo s)], [.blk 26 (T_api_Code.pvs p0), .blk 38 (T_api_Proc.pvs p1)]⟩) (fun s => F_retraceref22_Is_J5 p0 p1 s = some r) ?_ ?_
                · refine At.seq ?_
                  refine At.region_end [2, 3, 108, 109] [0, 1] _ (st' := ⟨[(2, .ptr 0 0), (3, .ptr 1 0), (108, i64 p1.Mode), (109, bo (p1.Mode == 0))], [.blk 26 (T_api_Code.pvs p0), .blk 38 (T_api_Proc.pvs p1)]⟩) (tips := []) (by kernel_rfl) all0 (norm ?_)
                  refine At.cond (p1.Mode == 0) (by kernel_rfl) (fun b279 => ?_) (fun b279 => ?_)
                  · replace h := cond_t b279 h
                    refine At.skip (fun a w hs => ⟨(p1.Mode == 0), h, hs⟩)
                  · replace h := cond_f b279 h
                    refine At.region_end [2, 3, 108, 109] [0, 1] _ (st' := ⟨[(2, .ptr 0 0), (3, .ptr 1 0), (108, i64 p1.Mode), (109, bo (p1.Mode == 6))], [.blk 26 (T_api_Code.pvs p0), .blk 38 (T_api_Proc.pvs p1)]⟩) (tips := []) (by kernel_rfl) all0 (fun a w hs => ⟨(p1.Mode == 6), h, hs⟩)
                · intro x201 h
                  replace h : F_retraceref22_Is_J5 p0 p1 x201 = some r := h
                  rw [F_retraceref22_Is_J5] at h
                  refine At.cond x201 (by kernel_rfl) (fun b202 => ?_) (fun b202 => ?_)
                  · replace h := cond_t b202 h
                    refine At.seq ?_
                    obtain ⟨y204, hy204, h⟩ := bind_some h
                    refine At.region_end [4] [] _ (st' := ⟨[(4, bo y204)], []⟩) (tips := [(5, { pc := some { ρ := [], n0 := 0, res := bo y204, σ' := [], e := [] } })]) (by kernel_rfl) (allc (C_retraceref22_is p0 p1.Def p1.At 1 y204 hy204) all0) (norm ?_)
                    obtain rfl := some_eq h
                    exact At.ret fun a w hs => ret_ok hR (ρ := []) (gs := []) (by kernel_rfl) all0 (by kernel_rfl) rfl rfl a w hs _ (.inl rfl)
                  · replace h := cond_f b202 h
                    refine At.seq ?_
                    refine At.region_end [2, 3, 108, 118] [0, 1] _ (st' := ⟨[(2, .ptr 0 0), (3, .ptr 1 0), (108, i64 p1.Mode), (118, bo (p1.Mode == 1))], [.blk 26 (T_api_Code.pvs p0), .blk 38 (T_api_Proc.pvs p1)]⟩) (tips := []) (by kernel_rfl) all0 (norm ?_)
                    refine At.cond (p1.Mode == 1) (by kernel_rfl) (fun b205 => ?_) (fun b205 => ?_)
                    · replace h := cond_t b205 h
                      refine At.seqJ (S := Bool) (fun s => ⟨[(4, bo s)], []⟩) (fun s => F_retraceref22_Is_J6 s = some r) ?_ ?_
                      · obtain ⟨y211, hy211, h⟩ := bind_some h
                        rcases tf y211 with b212 | b212
                        · replace h := cond_t b212 h
                          obtain ⟨y213, hy213, h⟩ := bind_some h
                          obtain ⟨y214, hy214, h⟩ := bind_some h
                          refine At.draw_end mixedOrd 0 [4] [] _ (st' := ⟨[(4, bo y214)], []⟩) (tips := [(0, { T := [0], r := 2 }), (1, { r := 2 }), (2, { T := [1], r := 2 }), (3, { r := 2 }), (4, { T := [1], r := 2 }), (5, { tip := { pc := some { ρ := [], n0 := 0, res := bo y211, σ' := [], e := [] } }, r := 2 }), (6, { tip := { orc := .val (.bool true) } }), (7, { r := 2 }), (8, { T := [1], r := 2 }), (9, { T := [0], r := 2 }), (10, { tip := { pc := some { ρ := [], n0 := 0, res := i64 y213, σ' := [], e := [] } }, r := 2 }), (11, { tip := { pc := some { ρ := [], n0 := 0, res := bo y214, σ' := [], e := [] } }, r := 2 })]) (by kernel_rfl) (allc (C_retraceref22_Rests p0 p1.Def p1.At y211 hy211) (allc (congrArg D.bool b212) (allc (C_retraceref22_Chans p0 y213 hy213) (allc (C_retraceref22_from p1.Chan y213 y214 hy214) all0)))) (fun a w hs => ⟨y214, h, hs⟩)
                        · replace h := cond_f b212 h
                          refine At.draw_end mixedOrd 0 [4] [] _ (st' := ⟨[(4, bo false)], []⟩) (tips := [(0, { T := [0], r := 2 }), (1, { r := 2 }), (2, { T := [1], r := 2 }), (3, { r := 2 }), (4, { T := [1], r := 2 }), (5, { tip := { pc := some { ρ := [], n0 := 0, res := bo y211, σ' := [], e := [] } }, r := 2 }), (6, { tip := { orc := .val (.bool false) } }), (7, { r := 2 }), (9, { T := [0], r := 2 }), (10, { r := 2 }), (11, { r := 2 })]) (by kernel_rfl) (allc (C_retraceref22_Rests p0 p1.Def p1.At y211 hy211) (allc (congrArg D.bool b212) all0)) (fun a w hs => ⟨false, h, hs⟩)
                      · intro x210 h
                        replace h : F_retraceref22_Is_J6 x210 = some r := h
                        rw [F_retraceref22_Is_J6] at h
                        obtain rfl := some_eq h
                        exact At.ret fun a w hs => ret_ok hR (ρ := []) (gs := []) (by kernel_rfl) all0 (by kernel_rfl) rfl rfl a w hs _ (.inl rfl)
                    · replace h := cond_f b205 h
                      refine At.seq ?_
                      refine At.region_end [2, 3, 108, 133] [0, 1] _ (st' := ⟨[(2, .ptr 0 0), (3, .ptr 1 0), (108, i64 p1.Mode), (133, bo (p1.Mode == 2))], [.blk 26 (T_api_Code.pvs p0), .blk 38 (T_api_Proc.pvs p1)]⟩) (tips := []) (by kernel_rfl) all0 (norm ?_)
                      refine At.cond (p1.Mode == 2) (by kernel_rfl) (fun b215 => ?_) (fun b215 => ?_)
                      · replace h := cond_t b215 h
                        refine At.seqJ (S := Bool) (fun s => ⟨[(4, bo s)], []⟩) (fun s => F_retraceref22_Is_J7 s = some r) ?_ ?_
                        · obtain ⟨y223, hy223, h⟩ := bind_some h
                          rcases tf y223 with b224 | b224
                          · replace h := cond_t b224 h
                            obtain ⟨y225, hy225, h⟩ := bind_some h
                            obtain ⟨y226, hy226, h⟩ := bind_some h
                            rcases tf y226 with b227 | b227
                            · replace h := cond_t b227 h
                              obtain ⟨y228, hy228, h⟩ := bind_some h
                              refine At.draw_end mixedOrd 0 [4] [] _ (st' := ⟨[(4, bo y228)], []⟩) (tips := [(0, { T := [0], r := 2 }), (1, { r := 2 }), (2, { T := [1], r := 2 }), (3, { r := 2 }), (4, { T := [1], r := 2 }), (5, { tip := { pc := some { ρ := [], n0 := 0, res := bo y223, σ' := [], e := [] } }, r := 2 }), (6, { tip := { orc := .val (.bool true) } }), (7, { r := 2 }), (8, { T := [1], r := 2 }), (9, { T := [0], r := 2 }), (10, { tip := { pc := some { ρ := [], n0 := 0, res := i64 y225, σ' := [], e := [] } }, r := 2 }), (11, { tip := { pc := some { ρ := [], n0 := 0, res := bo y226, σ' := [], e := [] } }, r := 2 }), (13, { tip := { orc := .val (.bool true) } }), (14, { r := 2 }), (15, { T := [1], r := 2 }), (16, { r := 2 }), (17, { T := [1], r := 2 }), (18, { r := 2 }), (19, { tip := { pc := some { ρ := [], n0 := 0, res := bo y228, σ' := [], e := [] } }, r := 2 })]) (by kernel_rfl) (allc (C_retraceref22_Rests p0 p1.Def p1.At y223 hy223) (allc (congrArg D.bool b224) (allc (C_retraceref22_Chans p0 y225 hy225) (allc (C_retraceref22_from p1.Chan y225 y226 hy226) (allc (congrArg D.bool b227) (allc (C_retraceref22_from p1.Slot ((p1.Vars).length : Int) y228 hy228) all0)))))) (fun a w hs => ⟨y228, h, hs⟩)
                            · replace h := cond_f b227 h
                              refine At.draw_end mixedOrd 0 [4] [] _ (st' := ⟨[(4, bo false)], []⟩) (tips := [(0, { T := [0], r := 2 }), (1, { r := 2 }), (2, { T := [1], r := 2 }), (3, { r := 2 }), (4, { T := [1], r := 2 }), (5, { tip := { pc := some { ρ := [], n0 := 0, res := bo y223, σ' := [], e := [] } }, r := 2 }), (6, { tip := { orc := .val (.bool true) } }), (7, { r := 2 }), (8, { T := [1], r := 2 }), (9, { T := [0], r := 2 }), (10, { tip := { pc := some { ρ := [], n0 := 0, res := i64 y225, σ' := [], e := [] } }, r := 2 }), (11, { tip := { pc := some { ρ := [], n0 := 0, res := bo y226, σ' := [], e := [] } }, r := 2 }), (13, { tip := { orc := .val (.bool false) } }), (14, { r := 2 }), (16, { r := 2 }), (18, { r := 2 }), (19, { r := 2 })]) (by kernel_rfl) (allc (C_retraceref22_Rests p0 p1.Def p1.At y223 hy223) (allc (congrArg D.bool b224) (allc (C_retraceref22_Chans p0 y225 hy225) (allc (C_retraceref22_from p1.Chan y225 y226 hy226) (allc (congrArg D.bool b227) all0))))) (fun a w hs => ⟨false, h, hs⟩)
                          · replace h := cond_f b224 h
                            refine At.draw_end mixedOrd 0 [4] [] _ (st' := ⟨[(4, bo false)], []⟩) (tips := [(0, { T := [0], r := 2 }), (1, { r := 2 }), (2, { T := [1], r := 2 }), (3, { r := 2 }), (4, { T := [1], r := 2 }), (5, { tip := { pc := some { ρ := [], n0 := 0, res := bo y223, σ' := [], e := [] } }, r := 2 }), (6, { tip := { orc := .val (.bool false) } }), (7, { r := 2 }), (9, { T := [0], r := 2 }), (10, { r := 2 }), (11, { r := 2 }), (14, { r := 2 }), (16, { r := 2 }), (18, { r := 2 }), (19, { r := 2 })]) (by kernel_rfl) (allc (C_retraceref22_Rests p0 p1.Def p1.At y223 hy223) (allc (congrArg D.bool b224) all0)) (fun a w hs => ⟨false, h, hs⟩)
                        · intro x222 h
                          replace h : F_retraceref22_Is_J7 x222 = some r := h
                          rw [F_retraceref22_Is_J7] at h
                          obtain rfl := some_eq h
                          exact At.ret fun a w hs => ret_ok hR (ρ := []) (gs := []) (by kernel_rfl) all0 (by kernel_rfl) rfl rfl a w hs _ (.inl rfl)
                      · replace h := cond_f b215 h
                        refine At.seq ?_
                        refine At.region_end [2, 3, 108, 156] [0, 1] _ (st' := ⟨[(2, .ptr 0 0), (3, .ptr 1 0), (108, i64 p1.Mode), (156, bo (p1.Mode == 4))], [.blk 26 (T_api_Code.pvs p0), .blk 38 (T_api_Proc.pvs p1)]⟩) (tips := []) (by kernel_rfl) all0 (norm ?_)
                        refine At.cond (p1.Mode == 4) (by kernel_rfl) (fun b229 => ?_) (fun b229 => ?_)
                        · replace h := cond_t b229 h
                          refine At.seqJ (S := Bool) (fun s => ⟨[(4, bo s)], []⟩) (fun s => F_retraceref22_Is_J8 s = some r) ?_ ?_
                          · obtain ⟨y234, hy234, h⟩ := bind_some h
                            rcases tf y234 with b235 | b235
                            · replace h := cond_t b235 h
                              obtain ⟨y236, hy236, h⟩ := bind_some h
                              refine At.region_end [4] [] _ (st' := ⟨[(4, bo y236)], []⟩) (tips := [(5, { pc := some { ρ := [], n0 := 0, res := bo y234, σ' := [], e := [] } }), (6, { orc := .val (.bool true) }), (9, { pc := some { ρ := [], n0 := 0, res := bo y236, σ' := [], e := [] } })]) (by kernel_rfl) (allc (C_retraceref22_Rests p0 p1.Def p1.At y234 hy234) (allc (congrArg D.bool b235) (allc (C_retraceref22_from p1.Until 1099511627777 y236 hy236) all0))) (fun a w hs => ⟨y236, h, hs⟩)
                            · replace h := cond_f b235 h
                              refine At.region_end [4] [] _ (st' := ⟨[(4, bo false)], []⟩) (tips := [(5, { pc := some { ρ := [], n0 := 0, res := bo y234, σ' := [], e := [] } }), (6, { orc := .val (.bool false) })]) (by kernel_rfl) (allc (C_retraceref22_Rests p0 p1.Def p1.At y234 hy234) (allc (congrArg D.bool b235) all0)) (fun a w hs => ⟨false, h, hs⟩)
                          · intro x233 h
                            replace h : F_retraceref22_Is_J8 x233 = some r := h
                            rw [F_retraceref22_Is_J8] at h
                            obtain rfl := some_eq h
                            exact At.ret fun a w hs => ret_ok hR (ρ := []) (gs := []) (by kernel_rfl) all0 (by kernel_rfl) rfl rfl a w hs _ (.inl rfl)
                        · replace h := cond_f b229 h
                          refine At.seq ?_
                          refine At.region_end [2, 3, 108, 169] [0, 1] _ (st' := ⟨[(2, .ptr 0 0), (3, .ptr 1 0), (108, i64 p1.Mode), (169, bo (p1.Mode == 5))], [.blk 26 (T_api_Code.pvs p0), .blk 38 (T_api_Proc.pvs p1)]⟩) (tips := []) (by kernel_rfl) all0 (norm ?_)
                          refine At.cond (p1.Mode == 5) (by kernel_rfl) (fun b237 => ?_) (fun b237 => ?_)
                          · replace h := cond_t b237 h
                            refine At.seq ?_
                            refine At.region_end [4] [] _ (st' := ⟨[(4, bo (p1.At == 0))], []⟩) (tips := []) (by kernel_rfl) all0 (norm ?_)
                            obtain rfl := some_eq h
                            exact At.ret fun a w hs => ret_ok hR (ρ := []) (gs := []) (by kernel_rfl) all0 (by kernel_rfl) rfl rfl a w hs _ (.inl rfl)
                          · replace h := cond_f b237 h
                            refine At.seq ?_
                            refine At.region_end [2, 3, 174] [0, 1] _ (st' := ⟨[(2, .ptr 0 0), (3, .ptr 1 0), (174, bo (p1.Mode == 3))], [.blk 26 (T_api_Code.pvs p0), .blk 38 (T_api_Proc.pvs p1)]⟩) (tips := []) (by kernel_rfl) all0 (norm ?_)
                            refine At.cond (p1.Mode == 3) (by kernel_rfl) (fun b238 => ?_) (fun b238 => ?_)
                            · replace h := cond_t b238 h
                              refine At.seq ?_
                              refine At.seq ?_
                              refine At.region_end [2, 3, 6] [0, 1] _ (st' := ⟨[(2, .ptr 0 0), (3, .ptr 1 0), (6, i64 0)], [.blk 26 (T_api_Code.pvs p0), .blk 38 (T_api_Proc.pvs p1)]⟩) (tips := []) (by kernel_rfl) all0 (norm ?_)
                              refine At.block ?_
                              refine At.loop (fun s : (Int) => F_retraceref22_Is_L9 p0 p1 s) (fun s : (Int) => ⟨[(2, .ptr 0 0), (3, .ptr 1 0), (6, i64 s)], [.blk 26 (T_api_Code.pvs p0), .blk 38 (T_api_Proc.pvs p1)]⟩) r 0 h ?_
                              intro x258 oo259 h f260
                              replace h : F_retraceref22_Is_L9 p0 p1 x258 = some oo259 := h
                              rw [F_retraceref22_Is_L9] at h
                              refine At.seq ?_
                              refine At.seq ?_
                              refine At.region_end [2, 3, 6, 180] [0, 1] _ (st' := ⟨[(2, .ptr 0 0), (3, .ptr 1 0), (6, i64 x258), (180, bo (decide (x258 < ((p1.Alts).length : Int))))], [.blk 26 (T_api_Code.pvs p0), .blk 38 (T_api_Proc.pvs p1)]⟩) (tips := []) (by kernel_rfl) all0 (norm ?_)
                              refine At.cond (decide (x258 < ((p1.Alts).length : Int))) (by kernel_rfl) (fun b262 => ?_) (fun b262 => ?_)
                              · replace h := cond_t b262 h
                                refine At.nar [2, 3, 6] [0, 1] (st' := ⟨[(2, .ptr 0 0), (3, .ptr 1 0), (6, i64 x258)], [.blk 26 (T_api_Code.pvs p0), .blk 38 (T_api_Proc.pvs p1)]⟩) (by kernel_rfl) ?_
                                refine At.skip (norm ?_)
                                refine At.seq ?_
                                refine At.block ?_
                                refine At.seq ?_
                                obtain ⟨y270, hy270, h⟩ := bind_some h
                                obtain ⟨y271, hy271, h⟩ := bind_some h
                                refine At.draw_end mixedOrd 0 [2, 3, 6, 191] [0, 1] _ (st' := ⟨[(2, .ptr 0 0), (3, .ptr 1 0), (6, i64 x258), (191, bo (!y271))], [.blk 26 (T_api_Code.pvs p0), .blk 38 (T_api_Proc.pvs p1)]⟩) (tips := [(0, { T := [0], r := 2 }), (1, { T := [1], r := 2 }), (2, { r := 2 }), (3, { T := [1], r := 2 }), (5, { tip := { orc := .cells (T_api_Alt.enc y270) } }), (7, { tip := { pc := some { ρ := [], n0 := 0, res := bo y271, σ' := [], e := [] } }, r := 2 })]) (by kernel_rfl) (allc (elemAt_of T_api_Alt.enc_len hy270) (allc (C_retraceref22_alt p0 p1 y270 y271 hy271) all0)) (norm ?_)
                                refine At.cond (!y271) (by kernel_rfl) (fun b272 => ?_) (fun b272 => ?_)
                                · replace h := cond_t b272 h
                                  refine At.seq ?_
                                  refine At.region_end [4] [] _ (st' := ⟨[(4, bo false)], []⟩) (tips := []) (by kernel_rfl) all0 (norm ?_)
                                  obtain ⟨r273, h, e274⟩ := map_inr h
                                  rw [f260 _ e274] at h
                                  obtain rfl := some_eq h
                                  exact At.ret fun a w hs => ret_ok hR (ρ := []) (gs := []) (by kernel_rfl) all0 (by kernel_rfl) rfl rfl a w hs _ (.inl rfl)
                                · replace h := cond_f b272 h
                                  refine At.nar [2, 3, 6] [0, 1] (st' := ⟨[(2, .ptr 0 0), (3, .ptr 1 0), (6, i64 x258)], [.blk 26 (T_api_Code.pvs p0), .blk 38 (T_api_Proc.pvs p1)]⟩) (by kernel_rfl) ?_
                                  refine At.skip (norm ?_)
                                  refine At.region_end [2, 3, 6] [0, 1] _ (st' := ⟨[(2, .ptr 0 0), (3, .ptr 1 0), (6, i64 (w64 (x258 + 1)))], [.blk 26 (T_api_Code.pvs p0), .blk 38 (T_api_Proc.pvs p1)]⟩) (tips := []) (by kernel_rfl) all0 (fun a w hs => ⟨_, (some_eq h).symm, hs⟩)
                              · replace h := cond_f b262 h
                                refine At.nar [2, 3] [0, 1] (st' := ⟨[(2, .ptr 0 0), (3, .ptr 1 0)], [.blk 26 (T_api_Code.pvs p0), .blk 38 (T_api_Proc.pvs p1)]⟩) (by kernel_rfl) ?_
                                obtain ⟨r275, h, e276⟩ := map_inr h
                                rw [f260 _ e276] at h
                                refine At.exit (norm ?_)
                                refine At.seq ?_
                                obtain ⟨y278, hy278, h⟩ := bind_some h
                                refine At.region_end [4] [] _ (st' := ⟨[(4, bo y278)], []⟩) (tips := [(5, { pc := some { ρ := [], n0 := 0, res := bo y278, σ' := [], e := [] } })]) (by kernel_rfl) (allc (C_retraceref22_is p0 p1.Def p1.At 1 y278 hy278) all0) (norm ?_)
                                obtain rfl := some_eq h
                                exact At.ret fun a w hs => ret_ok hR (ρ := []) (gs := []) (by kernel_rfl) all0 (by kernel_rfl) rfl rfl a w hs _ (.inl rfl)
                            · replace h := cond_f b238 h
                              refine At.nar [] [] (st' := ⟨[], []⟩) (by kernel_rfl) ?_
                              refine At.skip (norm ?_)
                              refine At.seq ?_
                              refine At.region_end [4] [] _ (st' := ⟨[(4, bo false)], []⟩) (tips := []) (by kernel_rfl) all0 (norm ?_)
                              obtain rfl := some_eq h
                              exact At.ret fun a w hs => ret_ok hR (ρ := []) (gs := []) (by kernel_rfl) all0 (by kernel_rfl) rfl rfl a w hs _ (.inl rfl)
set_option maxRecDepth 100000 in
theorem C_retracelaw25_small (p0 : T_api_Code) (p1 : (List T_api_Proc)) (r : Bool) (h : F_retracelaw25_small p0 p1 = some r) : FnOK Try.prog 11 [.agg (T_api_Code.pvs p0), lv T_api_Proc.enc p1] [] (bo r) [] [] := by
  rw [F_retracelaw25_small] at h
  refine FnOK.intro Try.func11 rfl (by kernel_rfl) (by kernel_rfl) fun E gv R hR => ?_
  refine At.seq ?_
  refine At.region_end [1, 2] [0] _ (st' := ⟨[(1, lv T_api_Proc.enc p1), (2, .ptr 0 0)], [.blk 26 (T_api_Code.pvs p0)]⟩) (tips := []) (by kernel_rfl) all0 (norm ?_)
  refine At.seq ?_
  refine At.seqJ (S := Bool) (fun s => ⟨[(1, lv T_api_Proc.enc p1), (2, .ptr 0 0), (31, bo s)], [.blk 26 (T_api_Code.pvs p0)]⟩) (fun s => F_retracelaw25_small_J1 p0 p1 s = some r) ?_ ?_
  · rcases tf (decide (150 < ((p0.Ins).length : Int))) with b94 | b94
    · replace h := cond_t b94 h
      refine At.region_end [1, 2, 31] [0] _ (st' := ⟨[(1, lv T_api_Proc.enc p1), (2, .ptr 0 0), (31, bo true)], [.blk 26 (T_api_Code.pvs p0)]⟩) (tips := [(4, { orc := .val (.bool true) })]) (by kernel_rfl) (allc (congrArg D.bool b94) all0) (fun a w hs => ⟨true, h, hs⟩)
    · replace h := cond_f b94 h
      rcases tf (decide (40 < ((p0.Defs).length : Int))) with b95 | b95
      · replace h := cond_t b95 h
        refine At.region_end [1, 2, 31] [0] _ (st' := ⟨[(1, lv T_api_Proc.enc p1), (2, .ptr 0 0), (31, bo true)], [.blk 26 (T_api_Code.pvs p0)]⟩) (tips := [(4, { orc := .val (.bool false) }), (10, { orc := .val (.bool true) })]) (by kernel_rfl) (allc (congrArg D.bool b94) (allc (congrArg D.bool b95) all0)) (fun a w hs => ⟨true, h, hs⟩)
      · replace h := cond_f b95 h
        rcases tf (decide (80 < ((p0.Chans).length : Int))) with b96 | b96
        · replace h := cond_t b96 h
          refine At.region_end [1, 2, 31] [0] _ (st' := ⟨[(1, lv T_api_Proc.enc p1), (2, .ptr 0 0), (31, bo true)], [.blk 26 (T_api_Code.pvs p0)]⟩) (tips := [(4, { orc := .val (.bool false) }), (10, { orc := .val (.bool false) }), (16, { orc := .val (.bool true) })]) (by kernel_rfl) (allc (congrArg D.bool b94) (allc (congrArg D.bool b95) (allc (congrArg D.bool b96) all0))) (fun a w hs => ⟨true, h, hs⟩)
        · replace h := cond_f b96 h
          rcases tf (decide (20 < ((p1).length : Int))) with b97 | b97
          · replace h := cond_t b97 h
            refine At.region_end [1, 2, 31] [0] _ (st' := ⟨[(1, lv T_api_Proc.enc p1), (2, .ptr 0 0), (31, bo true)], [.blk 26 (T_api_Code.pvs p0)]⟩) (tips := [(4, { orc := .val (.bool false) }), (10, { orc := .val (.bool false) }), (16, { orc := .val (.bool false) }), (21, { orc := .val (.bool true) })]) (by kernel_rfl) (allc (congrArg D.bool b94) (allc (congrArg D.bool b95) (allc (congrArg D.bool b96) (allc (congrArg D.bool b97) all0)))) (fun a w hs => ⟨true, h, hs⟩)
          · replace h := cond_f b97 h
            obtain ⟨y98, hy98, h⟩ := bind_some h
            refine At.region_end [1, 2, 31] [0] _ (st' := ⟨[(1, lv T_api_Proc.enc p1), (2, .ptr 0 0), (31, bo (!y98))], [.blk 26 (T_api_Code.pvs p0)]⟩) (tips := [(4, { orc := .val (.bool false) }), (10, { orc := .val (.bool false) }), (16, { orc := .val (.bool false) }), (21, { orc := .val (.bool false) }), (23, { pc := some { ρ := [], n0 := 0, res := bo y98, σ' := [], e := [] } })]) (by kernel_rfl) (allc (congrArg D.bool b94) (allc (congrArg D.bool b95) (allc (congrArg D.bool b96) (allc (congrArg D.bool b97) (allc (C_retraceref20_Right p0 y98 hy98) all0))))) (fun a w hs => ⟨(!y98), h, hs⟩)
  · intro x18 h
    replace h : F_retracelaw25_small_J1 p0 p1 x18 = some r := h
    rw [F_retracelaw25_small_J1] at h
    refine At.cond x18 (by kernel_rfl) (fun b19 => ?_) (fun b19 => ?_)
    · replace h := cond_t b19 h
      refine At.seq ?_
      refine At.region_end [4] [] _ (st' := ⟨[(4, bo false)], []⟩) (tips := []) (by kernel_rfl) all0 (norm ?_)
      obtain rfl := some_eq h
      exact At.ret fun a w hs => ret_ok hR (ρ := []) (gs := []) (by kernel_rfl) all0 (by kernel_rfl) rfl rfl a w hs _ (.inl rfl)
    · replace h := cond_f b19 h
      refine At.nar [1, 2] [0] (st' := ⟨[(1, lv T_api_Proc.enc p1), (2, .ptr 0 0)], [.blk 26 (T_api_Code.pvs p0)]⟩) (by kernel_rfl) ?_
      refine At.skip (norm ?_)
      refine At.seq ?_
      refine At.seq ?_
      refine At.region_end [1, 2, 5] [0] _ (st' := ⟨[(1, lv T_api_Proc.enc p1), (2, .ptr 0 0), (5, i64 0)], [.blk 26 (T_api_Code.pvs p0)]⟩) (tips := []) (by kernel_rfl) all0 (norm ?_)
      refine At.block ?_
      refine At.loop (fun s : (Int) => F_retracelaw25_small_L3 p0 p1 s) (fun s : (Int) => ⟨[(1, lv T_api_Proc.enc p1), (2, .ptr 0 0), (5, i64 s)], [.blk 26 (T_api_Code.pvs p0)]⟩) r 0 h ?_
      intro x57 oo58 h f59
      replace h : F_retracelaw25_small_L3 p0 p1 x57 = some oo58 := h
      rw [F_retracelaw25_small_L3] at h
      refine At.seq ?_
      refine At.seq ?_
      refine At.region_end [1, 2, 5, 35] [0] _ (st' := ⟨[(1, lv T_api_Proc.enc p1), (2, .ptr 0 0), (5, i64 x57), (35, bo (decide (x57 < ((p1).length : Int))))], [.blk 26 (T_api_Code.pvs p0)]⟩) (tips := []) (by kernel_rfl) all0 (norm ?_)
      refine At.cond (decide (x57 < ((p1).length : Int))) (by kernel_rfl) (fun b61 => ?_) (fun b61 => ?_)
      · replace h := cond_t b61 h
        refine At.nar [1, 2, 5] [0] (st' := ⟨[(1, lv T_api_Proc.enc p1), (2, .ptr 0 0), (5, i64 x57)], [.blk 26 (T_api_Code.pvs p0)]⟩) (by kernel_rfl) ?_
        refine At.skip (norm ?_)
        refine At.seq ?_
        refine At.block ?_
        refine At.seqJ (S := Bool) (fun s => ⟨[(1, lv T_api_Proc.enc p1), (2, .ptr 0 0), (5, i64 x57), (62, bo s)], [.blk 26 (T_api_Code.pvs p0)]⟩) (fun s => F_retracelaw25_small_J2 x57 s = some oo58) ?_ ?_
        · obtain ⟨y86, hy86, h⟩ := bind_some h
          rcases tf (decide (40 < ((y86.Alts).length : Int))) with b87 | b87
          · replace h := cond_t b87 h
            refine At.draw_end mixedOrd 0 [1, 2, 5, 62] [0] _ (st' := ⟨[(1, lv T_api_Proc.enc p1), (2, .ptr 0 0), (5, i64 x57), (62, bo true)], [.blk 26 (T_api_Code.pvs p0)]⟩) (tips := [(2, { tip := { orc := .cells (T_api_Proc.enc y86) } }), (5, { r := 1 }), (7, { tip := { orc := .val (.bool true) } }), (13, { r := 1 }), (17, { T := [0], r := 1 }), (22, { r := 1 })]) (by kernel_rfl) (allc (elemAt_of T_api_Proc.enc_len hy86) (allc (congrArg D.bool b87) all0)) (fun a w hs => ⟨true, h, hs⟩)
          · replace h := cond_f b87 h
            obtain ⟨y88, hy88, h⟩ := bind_some h
            rcases tf (decide (40 < ((y88.Vars).length : Int))) with b89 | b89
            · replace h := cond_t b89 h
              refine At.draw_end mixedOrd 0 [1, 2, 5, 62] [0] _ (st' := ⟨[(1, lv T_api_Proc.enc p1), (2, .ptr 0 0), (5, i64 x57), (62, bo true)], [.blk 26 (T_api_Code.pvs p0)]⟩) (tips := [(2, { tip := { orc := .cells (T_api_Proc.enc y86) } }), (5, { r := 1 }), (7, { tip := { orc := .val (.bool false) } }), (10, { tip := { orc := .cells (T_api_Proc.enc y88) } }), (13, { r := 1 }), (16, { tip := { orc := .val (.bool true) } }), (17, { T := [0], r := 1 }), (22, { r := 1 })]) (by kernel_rfl) (allc (elemAt_of T_api_Proc.enc_len hy86) (allc (congrArg D.bool b87) (allc (elemAt_of T_api_Proc.enc_len hy88) (allc (congrArg D.bool b89) all0)))) (fun a w hs => ⟨true, h, hs⟩)
            · replace h := cond_f b89 h
              obtain ⟨y90, hy90, h⟩ := bind_some h
              obtain ⟨y91, hy91, h⟩ := bind_some h
              refine At.draw_end mixedOrd 0 [1, 2, 5, 62] [0] _ (st' := ⟨[(1, lv T_api_Proc.enc p1), (2, .ptr 0 0), (5, i64 x57), (62, bo (!y91))], [.blk 26 (T_api_Code.pvs p0)]⟩) (tips := [(2, { tip := { orc := .cells (T_api_Proc.enc y86) } }), (5, { r := 1 }), (7, { tip := { orc := .val (.bool false) } }), (10, { tip := { orc := .cells (T_api_Proc.enc y88) } }), (13, { r := 1 }), (16, { tip := { orc := .val (.bool false) } }), (17, { T := [0], r := 1 }), (20, { tip := { orc := .cells (T_api_Proc.enc y90) } }), (22, { tip := { pc := some { ρ := [], n0 := 0, res := bo y91, σ' := [], e := [] } }, r := 1 })]) (by kernel_rfl) (allc (elemAt_of T_api_Proc.enc_len hy86) (allc (congrArg D.bool b87) (allc (elemAt_of T_api_Proc.enc_len hy88) (allc (congrArg D.bool b89) (allc (elemAt_of T_api_Proc.enc_len hy90) (allc (C_retraceref22_Is p0 y90 y91 hy91) all0)))))) (fun a w hs => ⟨(!y91), h, hs⟩)
        · intro x82 h
          replace h : F_retracelaw25_small_J2 x57 x82 = some oo58 := h
          rw [F_retracelaw25_small_J2] at h
          refine At.cond x82 (by kernel_rfl) (fun b83 => ?_) (fun b83 => ?_)
          · replace h := cond_t b83 h
            refine At.seq ?_
            refine At.region_end [4] [] _ (st' := ⟨[(4, bo false)], []⟩) (tips := []) (by kernel_rfl) all0 (norm ?_)
            obtain ⟨r84, h, e85⟩ := map_inr h
            rw [f59 _ e85] at h
            obtain rfl := some_eq h
            exact At.ret fun a w hs => ret_ok hR (ρ := []) (gs := []) (by kernel_rfl) all0 (by kernel_rfl) rfl rfl a w hs _ (.inl rfl)
          · replace h := cond_f b83 h
            refine At.nar [1, 2, 5] [0] (st' := ⟨[(1, lv T_api_Proc.enc p1), (2, .ptr 0 0), (5, i64 x57)], [.blk 26 (T_api_Code.pvs p0)]⟩) (by kernel_rfl) ?_
            refine At.skip (norm ?_)
            refine At.region_end [1, 2, 5] [0] _ (st' := ⟨[(1, lv T_api_Proc.enc p1), (2, .ptr 0 0), (5, i64 (w64 (x57 + 1)))], [.blk 26 (T_api_Code.pvs p0)]⟩) (tips := []) (by kernel_rfl) all0 (fun a w hs => ⟨_, (some_eq h).symm, hs⟩)
      · replace h := cond_f b61 h
        refine At.nar [] [] (st' := ⟨[], []⟩) (by kernel_rfl) ?_
        obtain ⟨r92, h, e93⟩ := map_inr h
        rw [f59 _ e93] at h
        refine At.exit (norm ?_)
        refine At.seq ?_
        refine At.region_end [4] [] _ (st' := ⟨[(4, bo true)], []⟩) (tips := []) (by kernel_rfl) all0 (norm ?_)
        obtain rfl := some_eq h
        exact At.ret fun a w hs => ret_ok hR (ρ := []) (gs := []) (by kernel_rfl) all0 (by kernel_rfl) rfl rfl a w hs _ (.inl rfl)
set_option maxRecDepth 100000 in
theorem C_offer_Of_1 (p0 : T_api_Alt) (o0_0 : Int) (o1_0 : Int) (r : Bool) (h : F_offer_Of_1 p0 o0_0 o1_0 = some r) : FnOK Try.prog 35 [.agg (T_api_Alt.pvs p0), .ptr 0 0, .ptr 1 0] [.blk 3 [i64 o0_0], .blk 3 [i64 o1_0]] (bo r) [.blk 3 [i64 o0_0], .blk 3 [i64 o1_0]] [1, 3] := by
  rw [F_offer_Of_1] at h
  refine FnOK.intro Try.func35 rfl (by kernel_rfl) (by kernel_rfl) fun E gv R hR => ?_
  refine At.seq ?_
  refine At.region_end [1, 2, 3] [0, 1, 2, 3, 4] _ (st' := ⟨[(1, .ptr 0 0), (2, .ptr 1 0), (3, .ptr 4 0)], [.blk 3 [i64 o0_0], .blk 3 [i64 o1_0], .ghost (gv 0) (.ptr 0 0), .ghost (gv 1) (.ptr 1 0), .blk 51 (T_api_Alt.pvs p0)]⟩) (tips := []) (by kernel_rfl) all0 (norm ?_)
  refine At.seqJ (S := Bool) (fun s => ⟨[(4, bo s)], [.blk 3 [i64 o0_0], .blk 3 [i64 o1_0], .ghost (gv 0) (.ptr 0 0), .ghost (gv 1) (.ptr 1 0)]⟩) (fun s => F_offer_Of_1_J1 s = some r) ?_ ?_
  · rcases tf (p0.Kind == o0_0) with b3 | b3
    · replace h := cond_t b3 h
      refine At.region_end [4] [0, 1, 2, 3] _ (st' := ⟨[(4, bo (p0.Chan == o1_0))], [.blk 3 [i64 o0_0], .blk 3 [i64 o1_0], .ghost (gv 0) (.ptr 0 0), .ghost (gv 1) (.ptr 1 0)]⟩) (tips := [(4, { orc := .val (.bool true) })]) (by kernel_rfl) (allc (congrArg D.bool b3) all0) (fun a w hs => ⟨(p0.Chan == o1_0), h, hs⟩)
    · replace h := cond_f b3 h
      refine At.region_end [4] [0, 1, 2, 3] _ (st' := ⟨[(4, bo false)], [.blk 3 [i64 o0_0], .blk 3 [i64 o1_0], .ghost (gv 0) (.ptr 0 0), .ghost (gv 1) (.ptr 1 0)]⟩) (tips := [(4, { orc := .val (.bool false) })]) (by kernel_rfl) (allc (congrArg D.bool b3) all0) (fun a w hs => ⟨false, h, hs⟩)
  · intro x2 h
    replace h : F_offer_Of_1_J1 x2 = some r := h
    rw [F_offer_Of_1_J1] at h
    obtain rfl := some_eq h
    exact At.ret fun a w hs => ret_ok hR (ρ := [0, 1]) (gs := [.ghost (gv 0) (.ptr 0 0), .ghost (gv 1) (.ptr 1 0)]) (by kernel_rfl) all0 (by kernel_rfl) rfl rfl a w hs _ (.inl rfl)
set_option maxRecDepth 100000 in
theorem C_slices_IndexFunc_retrace_api_Alt_retrace_api_Alt (p0 : (List T_api_Alt)) (o0_0 : Int) (o1_0 : Int) (r : Int) (h : F_slices_IndexFunc_retrace_api_Alt_retrace_api_Alt p0 o0_0 o1_0 = some r) : FnOK Try.prog 34 [lv T_api_Alt.enc p0, .fn (.func 35) [] [.ptr 0 0, .ptr 1 0]] [.blk 3 [i64 o0_0], .blk 3 [i64 o1_0]] (i64 r) [.blk 3 [i64 o0_0], .blk 3 [i64 o1_0]] [1, 3] := by
  rw [F_slices_IndexFunc_retrace_api_Alt_retrace_api_Alt] at h
  refine FnOK.intro Try.func34 rfl (by kernel_rfl) (by kernel_rfl) fun E gv R hR => ?_
  refine At.seq ?_
  refine At.region_end [0, 1] [0, 1, 2, 3] _ (st' := ⟨[(0, lv T_api_Alt.enc p0), (1, .fn (.func 35) [] [.ptr 0 0, .ptr 1 0])], [.blk 3 [i64 o0_0], .blk 3 [i64 o1_0], .ghost (gv 0) (.ptr 0 0), .ghost (gv 1) (.ptr 1 0)]⟩) (tips := []) (by kernel_rfl) all0 (norm ?_)
  refine At.seq ?_
  refine At.seq ?_
  refine At.region_end [0, 1, 7, 8] [0, 1, 2, 3] _ (st' := ⟨[(0, lv T_api_Alt.enc p0), (1, .fn (.func 35) [] [.ptr 0 0, .ptr 1 0]), (7, i64 ((p0).length : Int)), (8, i64 0)], [.blk 3 [i64 o0_0], .blk 3 [i64 o1_0], .ghost (gv 0) (.ptr 0 0), .ghost (gv 1) (.ptr 1 0)]⟩) (tips := []) (by kernel_rfl) all0 (norm ?_)
  refine At.block ?_
  refine At.loop (fun s : (Int) => F_slices_IndexFunc_retrace_api_Alt_retrace_api_Alt_L1 p0 o0_0 o1_0 s) (fun s : (Int) => ⟨[(0, lv T_api_Alt.enc p0), (1, .fn (.func 35) [] [.ptr 0 0, .ptr 1 0]), (7, i64 ((p0).length : Int)), (8, i64 s)], [.blk 3 [i64 o0_0], .blk 3 [i64 o1_0], .ghost (gv 0) (.ptr 0 0), .ghost (gv 1) (.ptr 1 0)]⟩) r 0 h ?_
  intro x20 oo21 h f22
  replace h : F_slices_IndexFunc_retrace_api_Alt_retrace_api_Alt_L1 p0 o0_0 o1_0 x20 = some oo21 := h
  rw [F_slices_IndexFunc_retrace_api_Alt_retrace_api_Alt_L1] at h
  refine At.seq ?_
  refine At.region_end [0, 1, 7, 8, 9] [0, 1, 2, 3] _ (st' := ⟨[(0, lv T_api_Alt.enc p0), (1, .fn (.func 35) [] [.ptr 0 0, .ptr 1 0]), (7, i64 ((p0).length : Int)), (8, i64 x20), (9, bo (decide (x20 < ((p0).length : Int))))], [.blk 3 [i64 o0_0], .blk 3 [i64 o1_0], .ghost (gv 0) (.ptr 0 0), .ghost (gv 1) (.ptr 1 0)]⟩) (tips := []) (by kernel_rfl) all0 (norm ?_)
  refine At.seq ?_
  refine At.cond (decide (x20 < ((p0).length : Int))) (by kernel_rfl) (fun b24 => ?_) (fun b24 => ?_)
  · replace h := cond_t b24 h
    refine At.nar [0, 1, 7, 8] [0, 1, 2, 3] (st' := ⟨[(0, lv T_api_Alt.enc p0), (1, .fn (.func 35) [] [.ptr 0 0, .ptr 1 0]), (7, i64 ((p0).length : Int)), (8, i64 x20)], [.blk 3 [i64 o0_0], .blk 3 [i64 o1_0], .ghost (gv 0) (.ptr 0 0), .ghost (gv 1) (.ptr 1 0)]⟩) (by kernel_rfl) ?_
    refine At.skip (norm ?_)
    refine At.seq ?_
    refine At.block ?_
    refine At.seq ?_
    refine At.region_end [0, 1, 5, 7, 8] [0, 1, 2, 3] _ (st' := ⟨[(0, lv T_api_Alt.enc p0), (1, .fn (.func 35) [] [.ptr 0 0, .ptr 1 0]), (5, i64 x20), (7, i64 ((p0).length : Int)), (8, i64 x20)], [.blk 3 [i64 o0_0], .blk 3 [i64 o1_0], .ghost (gv 0) (.ptr 0 0), .ghost (gv 1) (.ptr 1 0)]⟩) (tips := []) (by kernel_rfl) all0 (norm ?_)
    refine At.seq ?_
    obtain ⟨y32, hy32, h⟩ := bind_some h
    obtain ⟨y33, hy33, h⟩ := bind_some h
    refine At.region_end [0, 1, 5, 7, 8, 16] [0, 1, 2, 3] _ (st' := ⟨[(0, lv T_api_Alt.enc p0), (1, .fn (.func 35) [] [.ptr 0 0, .ptr 1 0]), (5, i64 x20), (7, i64 ((p0).length : Int)), (8, i64 x20), (16, bo y33)], [.blk 3 [i64 o0_0], .blk 3 [i64 o1_0], .ghost (gv 0) (.ptr 0 0), .ghost (gv 1) (.ptr 1 0)]⟩) (tips := [(3, { orc := .cells (T_api_Alt.enc y32) }), (5, { pc := some { ρ := [0, 1], n0 := 2, res := bo y33, σ' := [.blk 3 [i64 o0_0], .blk 3 [i64 o1_0]], e := [1, 3] } })]) (by kernel_rfl) (allc (elemAt_of T_api_Alt.enc_len hy32) (allc (C_offer_Of_1 y32 o0_0 o1_0 y33 hy33) all0)) (norm ?_)
    refine At.cond y33 (by kernel_rfl) (fun b34 => ?_) (fun b34 => ?_)
    · replace h := cond_t b34 h
      refine At.seq ?_
      refine At.region_end [4] [0, 1, 2, 3] _ (st' := ⟨[(4, i64 x20)], [.blk 3 [i64 o0_0], .blk 3 [i64 o1_0], .ghost (gv 0) (.ptr 0 0), .ghost (gv 1) (.ptr 1 0)]⟩) (tips := []) (by kernel_rfl) all0 (norm ?_)
      obtain ⟨r35, h, e36⟩ := map_inr h
      rw [f22 _ e36] at h
      obtain rfl := some_eq h
      exact At.ret fun a w hs => ret_ok hR (ρ := [0, 1]) (gs := [.ghost (gv 0) (.ptr 0 0), .ghost (gv 1) (.ptr 1 0)]) (by kernel_rfl) all0 (by kernel_rfl) rfl rfl a w hs _ (.inl rfl)
    · replace h := cond_f b34 h
      refine At.nar [0, 1, 7, 8] [0, 1, 2, 3] (st' := ⟨[(0, lv T_api_Alt.enc p0), (1, .fn (.func 35) [] [.ptr 0 0, .ptr 1 0]), (7, i64 ((p0).length : Int)), (8, i64 x20)], [.blk 3 [i64 o0_0], .blk 3 [i64 o1_0], .ghost (gv 0) (.ptr 0 0), .ghost (gv 1) (.ptr 1 0)]⟩) (by kernel_rfl) ?_
      refine At.skip (norm ?_)
      refine At.region_end [0, 1, 7, 8] [0, 1, 2, 3] _ (st' := ⟨[(0, lv T_api_Alt.enc p0), (1, .fn (.func 35) [] [.ptr 0 0, .ptr 1 0]), (7, i64 ((p0).length : Int)), (8, i64 (w64 (x20 + 1)))], [.blk 3 [i64 o0_0], .blk 3 [i64 o1_0], .ghost (gv 0) (.ptr 0 0), .ghost (gv 1) (.ptr 1 0)]⟩) (tips := []) (by kernel_rfl) all0 (fun a w hs => ⟨_, (some_eq h).symm, hs⟩)
  · replace h := cond_f b24 h
    refine At.nar [] [0, 1, 2, 3] (st' := ⟨[], [.blk 3 [i64 o0_0], .blk 3 [i64 o1_0], .ghost (gv 0) (.ptr 0 0), .ghost (gv 1) (.ptr 1 0)]⟩) (by kernel_rfl) ?_
    obtain ⟨r37, h, e38⟩ := map_inr h
    rw [f22 _ e38] at h
    refine At.exit (norm ?_)
    refine At.seq ?_
    refine At.region_end [4] [0, 1, 2, 3] _ (st' := ⟨[(4, i64 (-1))], [.blk 3 [i64 o0_0], .blk 3 [i64 o1_0], .ghost (gv 0) (.ptr 0 0), .ghost (gv 1) (.ptr 1 0)]⟩) (tips := []) (by kernel_rfl) all0 (norm ?_)
    obtain rfl := some_eq h
    exact At.ret fun a w hs => ret_ok hR (ρ := [0, 1]) (gs := [.ghost (gv 0) (.ptr 0 0), .ghost (gv 1) (.ptr 1 0)]) (by kernel_rfl) all0 (by kernel_rfl) rfl rfl a w hs _ (.inl rfl)
set_option maxRecDepth 100000 in
theorem C_offer_Of (p0 : T_api_Proc) (p1 : Int) (p2 : Int) (r : Int × Bool) (h : F_offer_Of p0 p1 p2 = some r) : FnOK Try.prog 15 [.agg (T_api_Proc.pvs p0), i64 p1, i64 p2] [] (.tup [i64 r.1, bo r.2]) [] [] := by
  rw [F_offer_Of] at h
  refine FnOK.intro Try.func15 rfl (by kernel_rfl) (by kernel_rfl) fun E gv R hR => ?_
  refine At.seq ?_
  refine At.region_end [3, 4, 5] [0, 1, 2] _ (st' := ⟨[(3, .ptr 0 0), (4, .ptr 1 0), (5, .ptr 2 0)], [.blk 38 (T_api_Proc.pvs p0), .blk 3 [i64 p1], .blk 3 [i64 p2]]⟩) (tips := []) (by kernel_rfl) all0 (norm ?_)
  refine At.seq ?_
  refine At.region_end [3, 4, 5, 8] [0, 1, 2, 3] _ (st' := ⟨[(3, .ptr 0 0), (4, .ptr 1 0), (5, .ptr 2 0), (8, .mapv 3)], [.blk 38 (T_api_Proc.pvs p0), .blk 3 [i64 p1], .blk 3 [i64 p2], .mp [.int .i64 2, .int .i64 1] [i64 1, i64 2]]⟩) (tips := []) (by kernel_rfl) all0 (norm ?_)
  refine At.seq ?_
  refine At.region_end [3, 4, 5, 9, 10] [0, 1, 2] _ (st' := ⟨[(3, .ptr 0 0), (4, .ptr 1 0), (5, .ptr 2 0), (9, i64 (cond (p1 == 2) 1 (cond (p1 == 1) 2 0))), (10, bo ((p1 == 2) || ((p1 == 1) || false)))], [.blk 38 (T_api_Proc.pvs p0), .blk 3 [i64 p1], .blk 3 [i64 p2]]⟩) (tips := []) (by kernel_rfl) all0 (norm ?_)
  refine At.seq ?_
  refine At.seq ?_
  refine At.region_end [3, 4, 5, 9, 21] [0, 1, 2] _ (st' := ⟨[(3, .ptr 0 0), (4, .ptr 1 0), (5, .ptr 2 0), (9, i64 (cond (p1 == 2) 1 (cond (p1 == 1) 2 0))), (21, bo (!((p1 == 2) || ((p1 == 1) || false))))], [.blk 38 (T_api_Proc.pvs p0), .blk 3 [i64 p1], .blk 3 [i64 p2]]⟩) (tips := []) (by kernel_rfl) all0 (norm ?_)
  refine At.cond (!((p1 == 2) || ((p1 == 1) || false))) (by kernel_rfl) (fun b2 => ?_) (fun b2 => ?_)
  · replace h := cond_t b2 h
    refine At.seq ?_
    refine At.region_end [6, 7] [] _ (st' := ⟨[(6, i64 0), (7, bo false)], []⟩) (tips := []) (by kernel_rfl) all0 (norm ?_)
    obtain rfl := some_eq h
    exact At.ret fun a w hs => ret_ok hR (ρ := []) (gs := []) (by kernel_rfl) all0 (by kernel_rfl) rfl rfl a w hs _ (.inl rfl)
  · replace h := cond_f b2 h
    refine At.nar [3, 4, 5, 9] [0, 1, 2] (st' := ⟨[(3, .ptr 0 0), (4, .ptr 1 0), (5, .ptr 2 0), (9, i64 (cond (p1 == 2) 1 (cond (p1 == 1) 2 0)))], [.blk 38 (T_api_Proc.pvs p0), .blk 3 [i64 p1], .blk 3 [i64 p2]]⟩) (by kernel_rfl) ?_
    refine At.skip (norm ?_)
    refine At.seq ?_
    refine At.seqJ (S := Bool) (fun s => ⟨[(3, .ptr 0 0), (4, .ptr 1 0), (5, .ptr 2 0), (31, bo s)], [.blk 38 (T_api_Proc.pvs p0), .blk 3 [i64 p1], .blk 3 [i64 p2]]⟩) (fun s => F_offer_Of_J1 p0 p1 p2 s = some r) ?_ ?_
    · rcases tf (p0.Mode == (cond (p1 == 2) 1 (cond (p1 == 1) 2 0))) with b14 | b14
      · replace h := cond_t b14 h
        refine At.region_end [3, 4, 5, 31] [0, 1, 2] _ (st' := ⟨[(3, .ptr 0 0), (4, .ptr 1 0), (5, .ptr 2 0), (31, bo (p0.Chan == p2))], [.blk 38 (T_api_Proc.pvs p0), .blk 3 [i64 p1], .blk 3 [i64 p2]]⟩) (tips := [(4, { orc := .val (.bool true) })]) (by kernel_rfl) (allc (congrArg D.bool b14) all0) (fun a w hs => ⟨(p0.Chan == p2), h, hs⟩)
      · replace h := cond_f b14 h
        refine At.region_end [3, 4, 5, 31] [0, 1, 2] _ (st' := ⟨[(3, .ptr 0 0), (4, .ptr 1 0), (5, .ptr 2 0), (31, bo false)], [.blk 38 (T_api_Proc.pvs p0), .blk 3 [i64 p1], .blk 3 [i64 p2]]⟩) (tips := [(4, { orc := .val (.bool false) })]) (by kernel_rfl) (allc (congrArg D.bool b14) all0) (fun a w hs => ⟨false, h, hs⟩)
    · intro x8 h
      replace h : F_offer_Of_J1 p0 p1 p2 x8 = some r := h
      rw [F_offer_Of_J1] at h
      refine At.cond x8 (by kernel_rfl) (fun b9 => ?_) (fun b9 => ?_)
      · replace h := cond_t b9 h
        refine At.seq ?_
        refine At.region_end [6, 7] [] _ (st' := ⟨[(6, i64 (-1)), (7, bo true)], []⟩) (tips := []) (by kernel_rfl) all0 (norm ?_)
        obtain rfl := some_eq h
        exact At.ret fun a w hs => ret_ok hR (ρ := []) (gs := []) (by kernel_rfl) all0 (by kernel_rfl) rfl rfl a w hs _ (.inl rfl)
      · replace h := cond_f b9 h
        refine At.nar [3, 4, 5] [0, 1, 2] (st' := ⟨[(3, .ptr 0 0), (4, .ptr 1 0), (5, .ptr 2 0)], [.blk 38 (T_api_Proc.pvs p0), .blk 3 [i64 p1], .blk 3 [i64 p2]]⟩) (by kernel_rfl) ?_
        refine At.skip (norm ?_)
        refine At.seq ?_
        refine At.seq ?_
        refine At.region_end [3, 4, 5, 34] [0, 1, 2] _ (st' := ⟨[(3, .ptr 0 0), (4, .ptr 1 0), (5, .ptr 2 0), (34, bo (p0.Mode != 3))], [.blk 38 (T_api_Proc.pvs p0), .blk 3 [i64 p1], .blk 3 [i64 p2]]⟩) (tips := []) (by kernel_rfl) all0 (norm ?_)
        refine At.cond (p0.Mode != 3) (by kernel_rfl) (fun b11 => ?_) (fun b11 => ?_)
        · replace h := cond_t b11 h
          refine At.seq ?_
          refine At.region_end [6, 7] [] _ (st' := ⟨[(6, i64 0), (7, bo false)], []⟩) (tips := []) (by kernel_rfl) all0 (norm ?_)
          obtain rfl := some_eq h
          exact At.ret fun a w hs => ret_ok hR (ρ := []) (gs := []) (by kernel_rfl) all0 (by kernel_rfl) rfl rfl a w hs _ (.inl rfl)
        · replace h := cond_f b11 h
          refine At.nar [3, 4, 5] [0, 1, 2] (st' := ⟨[(3, .ptr 0 0), (4, .ptr 1 0), (5, .ptr 2 0)], [.blk 38 (T_api_Proc.pvs p0), .blk 3 [i64 p1], .blk 3 [i64 p2]]⟩) (by kernel_rfl) ?_
          refine At.skip (norm ?_)
          refine At.seq ?_
          obtain ⟨y13, hy13, h⟩ := bind_some h
          refine At.region_end [11] [] _ (st' := ⟨[(11, i64 y13)], []⟩) (tips := [(3, { pc := some { ρ := [1, 2], n0 := 2, res := i64 y13, σ' := [.blk 3 [i64 p1], .blk 3 [i64 p2]], e := [1, 3] } })]) (by kernel_rfl) (allc (C_slices_IndexFunc_retrace_api_Alt_retrace_api_Alt p0.Alts p1 p2 y13 hy13) all0) (norm ?_)
          refine At.seq ?_
          refine At.region_end [6, 7] [] _ (st' := ⟨[(6, i64 (if 0 > y13 then 0 else y13)), (7, bo (decide (0 ≤ y13)))], []⟩) (tips := []) (by kernel_rfl) all0 (norm ?_)
          obtain rfl := some_eq h
          exact At.ret fun a w hs => ret_ok hR (ρ := []) (gs := []) (by kernel_rfl) all0 (by kernel_rfl) rfl rfl a w hs _ (.inl rfl)
set_option maxRecDepth 100000 in
theorem C_offer_Find (p0 : (List T_api_Proc)) (p1 : Int) (p2 : Int) (r : Int × Int) (h : F_offer_Find p0 p1 p2 = some r) : FnOK Try.prog 13 [lv T_api_Proc.enc p0, i64 p1, i64 p2] [] (.tup [i64 r.1, i64 r.2]) [] [] := by
  rw [F_offer_Find] at h
  refine FnOK.intro Try.func13 rfl (by kernel_rfl) (by kernel_rfl) fun E gv R hR => ?_
  refine At.seq ?_
  refine At.region_end [0, 1, 2] [] _ (st' := ⟨[(0, lv T_api_Proc.enc p0), (1, i64 p1), (2, i64 p2)], []⟩) (tips := []) (by kernel_rfl) all0 (norm ?_)
  refine At.scope ?_
  refine At.seq ?_
  refine At.region_end [0, 1, 2, 8, 9] [] _ (st' := ⟨[(0, lv T_api_Proc.enc p0), (1, i64 p1), (2, i64 p2), (8, i64 (-1)), (9, i64 (-1))], []⟩) (tips := []) (by kernel_rfl) all0 (norm ?_)
  refine At.seq ?_
  refine At.label (norm ?_)
  refine At.seq ?_
  refine At.seq ?_
  refine At.region_end [0, 1, 2, 8, 9, 14, 15, 16] [] _ (st' := ⟨[(0, lv T_api_Proc.enc p0), (1, i64 p1), (2, i64 p2), (8, i64 (-1)), (9, i64 (-1)), (14, lv T_api_Proc.enc p0), (15, i64 ((p0).length : Int)), (16, i64 0)], []⟩) (tips := []) (by kernel_rfl) all0 (norm ?_)
  refine At.block ?_
  refine At.loop (fun s : (Int × Int × Int) => F_offer_Find_L3 p0 p1 p2 s.1 s.2.1 s.2.2) (fun s : (Int × Int × Int) => ⟨[(0, lv T_api_Proc.enc p0), (1, i64 p1), (2, i64 p2), (8, i64 s.1), (9, i64 s.2.1), (14, lv T_api_Proc.enc p0), (15, i64 ((p0).length : Int)), (16, i64 s.2.2)], []⟩) r ((-1), (-1), 0) h ?_
  rintro ⟨x52, x53, x54⟩ oo55 h f56
  replace h : F_offer_Find_L3 p0 p1 p2 x52 x53 x54 = some oo55 := h
  rw [F_offer_Find_L3] at h
  refine At.seq ?_
  refine At.region_end [0, 1, 2, 8, 9, 14, 15, 16, 17] [] _ (st' := ⟨[(0, lv T_api_Proc.enc p0), (1, i64 p1), (2, i64 p2), (8, i64 x52), (9, i64 x53), (14, lv T_api_Proc.enc p0), (15, i64 ((p0).length : Int)), (16, i64 x54), (17, bo (decide (x54 < ((p0).length : Int))))], []⟩) (tips := []) (by kernel_rfl) all0 (norm ?_)
  refine At.seq ?_
  refine At.cond (decide (x54 < ((p0).length : Int))) (by kernel_rfl) (fun b58 => ?_) (fun b58 => ?_)
  · replace h := cond_t b58 h
    refine At.nar [0, 1, 2, 8, 9, 14, 15, 16] [] (st' := ⟨[(0, lv T_api_Proc.enc p0), (1, i64 p1), (2, i64 p2), (8, i64 x52), (9, i64 x53), (14, lv T_api_Proc.enc p0), (15, i64 ((p0).length : Int)), (16, i64 x54)], []⟩) (by kernel_rfl) ?_
    refine At.skip (norm ?_)
    refine At.seqJ (S := Int × Int) (fun s => ⟨[(0, lv T_api_Proc.enc p0), (1, i64 p1), (2, i64 p2), (8, i64 s.1), (9, i64 s.2), (14, lv T_api_Proc.enc p0), (15, i64 ((p0).length : Int)), (16, i64 x54)], []⟩) (fun s => F_offer_Find_J1 x54 s.1 s.2 = some oo55) ?_ ?_
    · refine At.block ?_
      refine At.seq ?_
      obtain ⟨y82, hy82, h⟩ := bind_some h
      refine At.region_end [0, 1, 2, 8, 9, 10, 11, 14, 15, 16] [0] _ (st' := ⟨[(0, lv T_api_Proc.enc p0), (1, i64 p1), (2, i64 p2), (8, i64 x52), (9, i64 x53), (10, i64 x54), (11, .ptr 0 0), (14, lv T_api_Proc.enc p0), (15, i64 ((p0).length : Int)), (16, i64 x54)], [.blk 38 (T_api_Proc.pvs y82)]⟩) (tips := [(1, { orc := .cells (T_api_Proc.enc y82) })]) (by kernel_rfl) (allc (elemAt_of T_api_Proc.enc_len hy82) all0) (norm ?_)
      refine At.seq ?_
      obtain ⟨y84, hy84, h⟩ := bind_some h
      refine At.region_end [0, 1, 2, 8, 9, 10, 11, 12, 13, 14, 15, 16] [0] _ (st' := ⟨[(0, lv T_api_Proc.enc p0), (1, i64 p1), (2, i64 p2), (8, i64 x52), (9, i64 x53), (10, i64 x54), (11, .ptr 0 0), (12, i64 y84.1), (13, bo y84.2), (14, lv T_api_Proc.enc p0), (15, i64 ((p0).length : Int)), (16, i64 x54)], [.blk 38 (T_api_Proc.pvs y82)]⟩) (tips := [(3, { pc := some { ρ := [], n0 := 0, res := .tup [i64 y84.1, bo y84.2], σ' := [], e := [] } })]) (by kernel_rfl) (allc (C_offer_Of y82 p1 p2 y84 hy84) all0) (norm ?_)
      refine At.seq ?_
      refine At.block ?_
      refine At.seqJ (S := Bool) (fun s => ⟨[(0, lv T_api_Proc.enc p0), (1, i64 p1), (2, i64 p2), (8, i64 x52), (9, i64 x53), (10, i64 x54), (12, i64 y84.1), (14, lv T_api_Proc.enc p0), (15, i64 ((p0).length : Int)), (16, i64 x54), (28, bo s)], []⟩) (fun s => F_offer_Find_J2 x52 x53 x54 y84 s = some oo55) ?_ ?_
      · refine At.seq ?_
        refine At.region_end [0, 1, 2, 8, 9, 10, 11, 12, 14, 15, 16, 28] [0] _ (st' := ⟨[(0, lv T_api_Proc.enc p0), (1, i64 p1), (2, i64 p2), (8, i64 x52), (9, i64 x53), (10, i64 x54), (11, .ptr 0 0), (12, i64 y84.1), (14, lv T_api_Proc.enc p0), (15, i64 ((p0).length : Int)), (16, i64 x54), (28, bo (!y84.2))], [.blk 38 (T_api_Proc.pvs y82)]⟩) (tips := []) (by kernel_rfl) all0 (norm ?_)
        refine At.cond (!y84.2) (by kernel_rfl) (fun b98 => ?_) (fun b98 => ?_)
        · replace h := cond_t b98 h
          refine At.nar [0, 1, 2, 8, 9, 10, 12, 14, 15, 16, 28] [] (st' := ⟨[(0, lv T_api_Proc.enc p0), (1, i64 p1), (2, i64 p2), (8, i64 x52), (9, i64 x53), (10, i64 x54), (12, i64 y84.1), (14, lv T_api_Proc.enc p0), (15, i64 ((p0).length : Int)), (16, i64 x54), (28, bo (!y84.2))], []⟩) (by kernel_rfl) ?_
          refine At.skip (fun a w hs => ⟨(!y84.2), h, hs⟩)
        · replace h := cond_f b98 h
          rcases tf (decide (0 ≤ x52)) with b99 | b99
          · replace h := cond_t b99 h
            obtain ⟨y100, hy100, h⟩ := bind_some h
            refine At.draw_end mixedOrd 0 [0, 1, 2, 8, 9, 10, 12, 14, 15, 16, 28] [] _ (st' := ⟨[(0, lv T_api_Proc.enc p0), (1, i64 p1), (2, i64 p2), (8, i64 x52), (9, i64 x53), (10, i64 x54), (12, i64 y84.1), (14, lv T_api_Proc.enc p0), (15, i64 ((p0).length : Int)), (16, i64 x54), (28, bo (decide (y100.Since ≤ y82.Since)))], []⟩) (tips := [(2, { tip := { orc := .val (.bool true) } }), (5, { tip := { orc := .cells (T_api_Proc.enc y100) } }), (8, { r := 1 }), (9, { T := [0], r := 1 })]) (by kernel_rfl) (allc (congrArg D.bool b99) (allc (elemAt_of T_api_Proc.enc_len hy100) all0)) (fun a w hs => ⟨(decide (y100.Since ≤ y82.Since)), h, hs⟩)
          · replace h := cond_f b99 h
            refine At.draw_end mixedOrd 0 [0, 1, 2, 8, 9, 10, 12, 14, 15, 16, 28] [] _ (st' := ⟨[(0, lv T_api_Proc.enc p0), (1, i64 p1), (2, i64 p2), (8, i64 x52), (9, i64 x53), (10, i64 x54), (12, i64 y84.1), (14, lv T_api_Proc.enc p0), (15, i64 ((p0).length : Int)), (16, i64 x54), (28, bo false)], []⟩) (tips := [(2, { tip := { orc := .val (.bool false) } }), (8, { r := 1 })]) (by kernel_rfl) (allc (congrArg D.bool b99) all0) (fun a w hs => ⟨false, h, hs⟩)
      · intro x96 h
        replace h : F_offer_Find_J2 x52 x53 x54 y84 x96 = some oo55 := h
        rw [F_offer_Find_J2] at h
        refine At.cond x96 (by kernel_rfl) (fun b97 => ?_) (fun b97 => ?_)
        · replace h := cond_t b97 h
          refine At.nar [0, 1, 2, 8, 9, 14, 15, 16] [] (st' := ⟨[(0, lv T_api_Proc.enc p0), (1, i64 p1), (2, i64 p2), (8, i64 x52), (9, i64 x53), (14, lv T_api_Proc.enc p0), (15, i64 ((p0).length : Int)), (16, i64 x54)], []⟩) (by kernel_rfl) ?_
          refine At.exit (fun a w hs => ⟨(x52, x53), h, hs⟩)
        · replace h := cond_f b97 h
          refine At.nar [0, 1, 2, 10, 12, 14, 15, 16] [] (st' := ⟨[(0, lv T_api_Proc.enc p0), (1, i64 p1), (2, i64 p2), (10, i64 x54), (12, i64 y84.1), (14, lv T_api_Proc.enc p0), (15, i64 ((p0).length : Int)), (16, i64 x54)], []⟩) (by kernel_rfl) ?_
          refine At.skip (norm ?_)
          refine At.region_end [0, 1, 2, 8, 9, 14, 15, 16] [] _ (st' := ⟨[(0, lv T_api_Proc.enc p0), (1, i64 p1), (2, i64 p2), (8, i64 x54), (9, i64 y84.1), (14, lv T_api_Proc.enc p0), (15, i64 ((p0).length : Int)), (16, i64 x54)], []⟩) (tips := []) (by kernel_rfl) all0 (fun a w hs => ⟨(x54, y84.1), h, hs⟩)
    · rintro ⟨x79, x80⟩ h
      replace h : F_offer_Find_J1 x54 x79 x80 = some oo55 := h
      rw [F_offer_Find_J1] at h
      refine At.region_end [0, 1, 2, 8, 9, 14, 15, 16] [] _ (st' := ⟨[(0, lv T_api_Proc.enc p0), (1, i64 p1), (2, i64 p2), (8, i64 x79), (9, i64 x80), (14, lv T_api_Proc.enc p0), (15, i64 ((p0).length : Int)), (16, i64 (w64 (x54 + 1)))], []⟩) (tips := []) (by kernel_rfl) all0 (fun a w hs => ⟨_, (some_eq h).symm, hs⟩)
  · replace h := cond_f b58 h
    refine At.nar [8, 9] [] (st' := ⟨[(8, i64 x52), (9, i64 x53)], []⟩) (by kernel_rfl) ?_
    obtain ⟨r101, h, e102⟩ := map_inr h
    rw [f56 _ e102] at h
    refine At.exit (norm ?_)
    refine At.seq ?_
    refine At.region_end [6, 7] [] _ (st' := ⟨[(6, i64 x52), (7, i64 x53)], []⟩) (tips := []) (by kernel_rfl) all0 (norm ?_)
    obtain rfl := some_eq h
    exact At.ret fun a w hs => ret_ok hR (ρ := []) (gs := []) (by kernel_rfl) all0 (by kernel_rfl) rfl rfl a w hs _ (.inl rfl)
set_option maxRecDepth 100000 in
theorem C_offer_alt (p0 : T_api_Proc) (p1 : Int) (r : T_api_Alt × Bool) (h : F_offer_alt p0 p1 = some r) : FnOK Try.prog 36 [.agg (T_api_Proc.pvs p0), i64 p1] [] (.tup [.agg (T_api_Alt.pvs r.1), bo r.2]) [] [] := by
  rw [F_offer_alt] at h
  refine FnOK.intro Try.func36 rfl (by kernel_rfl) (by kernel_rfl) fun E gv R hR => ?_
  refine At.seq ?_
  refine At.region_end [1, 2, 4] [0, 1] _ (st' := ⟨[(1, i64 p1), (2, .ptr 0 0), (4, .ptr 1 0)], [.blk 38 (T_api_Proc.pvs p0), .blk 51 [i64 0, i64 0, i64 0, i64 0, i64 0]]⟩) (tips := []) (by kernel_rfl) all0 (norm ?_)
  refine At.seq ?_
  refine At.seqJ (S := Bool) (fun s => ⟨[(1, i64 p1), (2, .ptr 0 0), (4, .ptr 1 0), (19, bo s)], [.blk 38 (T_api_Proc.pvs p0), .blk 51 [i64 0, i64 0, i64 0, i64 0, i64 0]]⟩) (fun s => F_offer_alt_J1 p0 p1 s = some r) ?_ ?_
  · rcases tf (p0.Mode != 3) with b13 | b13
    · replace h := cond_t b13 h
      refine At.region_end [1, 2, 4, 19] [0, 1] _ (st' := ⟨[(1, i64 p1), (2, .ptr 0 0), (4, .ptr 1 0), (19, bo true)], [.blk 38 (T_api_Proc.pvs p0), .blk 51 [i64 0, i64 0, i64 0, i64 0, i64 0]]⟩) (tips := [(3, { orc := .val (.bool true) })]) (by kernel_rfl) (allc (congrArg D.bool b13) all0) (fun a w hs => ⟨true, h, hs⟩)
    · replace h := cond_f b13 h
      rcases tf (decide (p1 < 0)) with b14 | b14
      · replace h := cond_t b14 h
        refine At.region_end [1, 2, 4, 19] [0, 1] _ (st' := ⟨[(1, i64 p1), (2, .ptr 0 0), (4, .ptr 1 0), (19, bo true)], [.blk 38 (T_api_Proc.pvs p0), .blk 51 [i64 0, i64 0, i64 0, i64 0, i64 0]]⟩) (tips := [(3, { orc := .val (.bool false) }), (7, { orc := .val (.bool true) })]) (by kernel_rfl) (allc (congrArg D.bool b13) (allc (congrArg D.bool b14) all0)) (fun a w hs => ⟨true, h, hs⟩)
      · replace h := cond_f b14 h
        refine At.region_end [1, 2, 4, 19] [0, 1] _ (st' := ⟨[(1, i64 p1), (2, .ptr 0 0), (4, .ptr 1 0), (19, bo (decide (((p0.Alts).length : Int) ≤ p1)))], [.blk 38 (T_api_Proc.pvs p0), .blk 51 [i64 0, i64 0, i64 0, i64 0, i64 0]]⟩) (tips := [(3, { orc := .val (.bool false) }), (7, { orc := .val (.bool false) })]) (by kernel_rfl) (allc (congrArg D.bool b13) (allc (congrArg D.bool b14) all0)) (fun a w hs => ⟨(decide (((p0.Alts).length : Int) ≤ p1)), h, hs⟩)
  · intro x9 h
    replace h : F_offer_alt_J1 p0 p1 x9 = some r := h
    rw [F_offer_alt_J1] at h
    refine At.cond x9 (by kernel_rfl) (fun b10 => ?_) (fun b10 => ?_)
    · replace h := cond_t b10 h
      refine At.seq ?_
      refine At.region_end [4, 5] [1] _ (st' := ⟨[(4, .ptr 0 0), (5, bo false)], [.blk 51 [i64 0, i64 0, i64 0, i64 0, i64 0]]⟩) (tips := []) (by kernel_rfl) all0 (norm ?_)
      obtain rfl := some_eq h
      exact At.ret fun a w hs => ret_ok hR (ρ := []) (gs := []) (by kernel_rfl) all0 (by kernel_rfl) rfl rfl a w hs _ (.inl rfl)
    · replace h := cond_f b10 h
      refine At.nar [1, 2, 4] [0, 1] (st' := ⟨[(1, i64 p1), (2, .ptr 0 0), (4, .ptr 1 0)], [.blk 38 (T_api_Proc.pvs p0), .blk 51 [i64 0, i64 0, i64 0, i64 0, i64 0]]⟩) (by kernel_rfl) ?_
      refine At.skip (norm ?_)
      refine At.seq ?_
      obtain ⟨y12, hy12, h⟩ := bind_some h
      refine At.region_end [4, 5] [1] _ (st' := ⟨[(4, .ptr 0 0), (5, bo true)], [.blk 51 (T_api_Alt.pvs y12)]⟩) (tips := [(3, { orc := .cells (T_api_Alt.enc y12) })]) (by kernel_rfl) (allc (elemAt_of T_api_Alt.enc_len hy12) all0) (norm ?_)
      obtain rfl := some_eq h
      exact At.ret fun a w hs => ret_ok hR (ρ := []) (gs := []) (by kernel_rfl) all0 (by kernel_rfl) rfl rfl a w hs _ (.inl rfl)
set_option maxRecDepth 100000 in
theorem C_offer_Value (p0_0 : Int) (p0_1 : Int) (p0_3 : Int) (p0_4 : Int) (p0_5 : Int) (p0_6 : Int) (p0_7 : Int) (p0_8 : Int) (p0_9 : Int) (p0_10 : (List T_api_Alt)) (p1 : Int) (o0 : (List Int)) (r : (Int) ⊕ (Int)) (h : F_offer_Value p0_0 p0_1 p0_3 p0_4 p0_5 p0_6 p0_7 p0_8 p0_9 p0_10 p1 o0 = some r) : FnOK Try.prog 17 [.agg [i64 p0_0, i64 p0_1, .row 0 (o0).length, i64 p0_3, i64 p0_4, i64 p0_5, i64 p0_6, i64 p0_7, i64 p0_8, i64 p0_9, lv T_api_Alt.enc p0_10], i64 p1] [.row 3 1 (encL (eInt .i64) o0)] ((Sum.elim (fun r => i64 r) (fun r => i64 r)) r) ((Sum.elim (fun r => [.row 3 1 (encL (eInt .i64) o0)]) (fun r => [.dead])) r) [0, 1] := by
  rw [F_offer_Value] at h
  refine FnOK.intro Try.func17 rfl (by kernel_rfl) (by kernel_rfl) fun E gv R hR => ?_
  refine At.seq ?_
  refine At.region_end [1, 2] [0, 1, 2] _ (st' := ⟨[(1, i64 p1), (2, .ptr 2 0)], [.row 3 1 (encL (eInt .i64) o0), .ghost (gv 0) (.row 0 0), .blk 38 [i64 p0_0, i64 p0_1, .row 0 (o0).length, i64 p0_3, i64 p0_4, i64 p0_5, i64 p0_6, i64 p0_7, i64 p0_8, i64 p0_9, lv T_api_Alt.enc p0_10]]⟩) (tips := []) (by kernel_rfl) all0 (norm ?_)
  refine At.seq ?_
  refine At.seqJ (S := Bool) (fun s => ⟨[(1, i64 p1), (2, .ptr 2 0), (13, bo s)], [.row 3 1 (encL (eInt .i64) o0), .ghost (gv 0) (.row 0 0), .blk 38 [i64 p0_0, i64 p0_1, .row 0 (o0).length, i64 p0_3, i64 p0_4, i64 p0_5, i64 p0_6, i64 p0_7, i64 p0_8, i64 p0_9, lv T_api_Alt.enc p0_10]]⟩) (fun s => F_offer_Value_J1 p0_0 p0_1 p0_3 p0_4 p0_5 p0_6 p0_7 p0_8 p0_9 p0_10 p1 o0 s = some r) ?_ ?_
  · rcases tf (p0_4 == 1) with b20 | b20
    · replace h := cond_t b20 h
      refine At.region_end [1, 2, 13] [0, 1, 2] _ (st' := ⟨[(1, i64 p1), (2, .ptr 2 0), (13, bo (p1 == (-1)))], [.row 3 1 (encL (eInt .i64) o0), .ghost (gv 0) (.row 0 0), .blk 38 [i64 p0_0, i64 p0_1, .row 0 (o0).length, i64 p0_3, i64 p0_4, i64 p0_5, i64 p0_6, i64 p0_7, i64 p0_8, i64 p0_9, lv T_api_Alt.enc p0_10]]⟩) (tips := [(3, { orc := .val (.bool true) })]) (by kernel_rfl) (allc (congrArg D.bool b20) all0) (fun a w hs => ⟨(p1 == (-1)), h, hs⟩)
    · replace h := cond_f b20 h
      refine At.region_end [1, 2, 13] [0, 1, 2] _ (st' := ⟨[(1, i64 p1), (2, .ptr 2 0), (13, bo false)], [.row 3 1 (encL (eInt .i64) o0), .ghost (gv 0) (.row 0 0), .blk 38 [i64 p0_0, i64 p0_1, .row 0 (o0).length, i64 p0_3, i64 p0_4, i64 p0_5, i64 p0_6, i64 p0_7, i64 p0_8, i64 p0_9, lv T_api_Alt.enc p0_10]]⟩) (tips := [(3, { orc := .val (.bool false) })]) (by kernel_rfl) (allc (congrArg D.bool b20) all0) (fun a w hs => ⟨false, h, hs⟩)
  · intro x6 h
    replace h : F_offer_Value_J1 p0_0 p0_1 p0_3 p0_4 p0_5 p0_6 p0_7 p0_8 p0_9 p0_10 p1 o0 x6 = some r := h
    rw [F_offer_Value_J1] at h
    refine At.cond x6 (by kernel_rfl) (fun b7 => ?_) (fun b7 => ?_)
    · replace h := cond_t b7 h
      refine At.seq ?_
      refine At.region_end [4] [0, 1] _ (st' := ⟨[(4, i64 p0_6)], [.row 3 1 (encL (eInt .i64) o0), .ghost (gv 0) (.row 0 0)]⟩) (tips := []) (by kernel_rfl) all0 (norm ?_)
      refine At.edNar [.hideG 1] [4] [0, 1] (st' := ⟨[(4, i64 p0_6)], [.row 3 1 (encL (eInt .i64) o0), .ghost (gv 0) (.undef)]⟩) (by kernel_rfl) ?_
      obtain rfl := some_eq h
      exact At.ret fun a w hs => ret_ok hR (ρ := [0]) (gs := [.ghost (gv 0) (.undef)]) (by kernel_rfl) all0 (by kernel_rfl) rfl rfl a w hs _ (.inl rfl)
    · replace h := cond_f b7 h
      refine At.nar [1, 2] [0, 1, 2] (st' := ⟨[(1, i64 p1), (2, .ptr 2 0)], [.row 3 1 (encL (eInt .i64) o0), .ghost (gv 0) (.row 0 0), .blk 38 [i64 p0_0, i64 p0_1, .row 0 (o0).length, i64 p0_3, i64 p0_4, i64 p0_5, i64 p0_6, i64 p0_7, i64 p0_8, i64 p0_9, lv T_api_Alt.enc p0_10]]⟩) (by kernel_rfl) ?_
      refine At.skip (norm ?_)
      refine At.seq ?_
      refine At.seq ?_
      obtain ⟨y15, hy15, h⟩ := bind_some h
      refine At.region_end [5, 6] [0, 1, 3] _ (st' := ⟨[(5, .ptr 2 0), (6, bo y15.2)], [.dead, .ghost (gv 0) (.d (.list false 0 (encL (eInt .i64) o0))), .blk 51 (T_api_Alt.pvs y15.1)]⟩) (tips := [(2, { settle := [0], pc := some { ρ := [], n0 := 0, res := .tup [.agg (T_api_Alt.pvs y15.1), bo y15.2], σ' := [], e := [] } })]) (by kernel_rfl) (allc (C_offer_alt (⟨p0_0, p0_1, o0, p0_3, p0_4, p0_5, p0_6, p0_7, p0_8, p0_9, p0_10⟩ : T_api_Proc) p1 y15 hy15) all0) (norm ?_)
      refine At.seqJ (S := Bool) (fun s => ⟨[(5, .ptr 2 0), (27, bo s)], [.dead, .ghost (gv 0) (.undef), .blk 51 (T_api_Alt.pvs y15.1)]⟩) (fun s => F_offer_Value_J2 y15 s = some r) ?_ ?_
      · rcases tf y15.2 with b19 | b19
        · replace h := cond_t b19 h
          refine At.region_end [5, 27] [0, 1, 2] _ (st' := ⟨[(5, .ptr 2 0), (27, bo (y15.1.Kind == 2))], [.dead, .ghost (gv 0) (.d (.list false 0 (encL (eInt .i64) o0))), .blk 51 (T_api_Alt.pvs y15.1)]⟩) (tips := [(1, { orc := .val (.bool true) })]) (by kernel_rfl) (allc (congrArg D.bool b19) all0) (edq (l := [.hideG 1]) (ks := [5, 27]) (ρ := [0, 1, 2]) (st' := ⟨[(5, .ptr 2 0), (27, bo (y15.1.Kind == 2))], [.dead, .ghost (gv 0) (.undef), .blk 51 (T_api_Alt.pvs y15.1)]⟩) (by kernel_rfl) (fun a w hs => ⟨(y15.1.Kind == 2), h, hs⟩))
        · replace h := cond_f b19 h
          refine At.region_end [5, 27] [0, 1, 2] _ (st' := ⟨[(5, .ptr 2 0), (27, bo false)], [.dead, .ghost (gv 0) (.d (.list false 0 (encL (eInt .i64) o0))), .blk 51 (T_api_Alt.pvs y15.1)]⟩) (tips := [(1, { orc := .val (.bool false) })]) (by kernel_rfl) (allc (congrArg D.bool b19) all0) (edq (l := [.hideG 1]) (ks := [5, 27]) (ρ := [0, 1, 2]) (st' := ⟨[(5, .ptr 2 0), (27, bo false)], [.dead, .ghost (gv 0) (.undef), .blk 51 (T_api_Alt.pvs y15.1)]⟩) (by kernel_rfl) (fun a w hs => ⟨false, h, hs⟩))
      · intro x17 h
        replace h : F_offer_Value_J2 y15 x17 = some r := h
        rw [F_offer_Value_J2] at h
        refine At.cond x17 (by kernel_rfl) (fun b18 => ?_) (fun b18 => ?_)
        · replace h := cond_t b18 h
          refine At.seq ?_
          refine At.region_end [4] [0, 1] _ (st' := ⟨[(4, i64 y15.1.Val)], [.dead, .ghost (gv 0) (.undef)]⟩) (tips := []) (by kernel_rfl) all0 (norm ?_)
          obtain rfl := some_eq h
          exact At.ret fun a w hs => ret_ok hR (ρ := [0]) (gs := [.ghost (gv 0) (.undef)]) (by kernel_rfl) all0 (by kernel_rfl) rfl rfl a w hs _ (.inl rfl)
        · replace h := cond_f b18 h
          refine At.nar [] [0, 1] (st' := ⟨[], [.dead, .ghost (gv 0) (.undef)]⟩) (by kernel_rfl) ?_
          refine At.skip (norm ?_)
          refine At.seq ?_
          refine At.region_end [4] [0, 1] _ (st' := ⟨[(4, i64 0)], [.dead, .ghost (gv 0) (.undef)]⟩) (tips := []) (by kernel_rfl) all0 (norm ?_)
          obtain rfl := some_eq h
          exact At.ret fun a w hs => ret_ok hR (ρ := [0]) (gs := [.ghost (gv 0) (.undef)]) (by kernel_rfl) all0 (by kernel_rfl) rfl rfl a w hs _ (.inl rfl)
set_option maxRecDepth 100000 in
theorem C_retracelaw25_live  (r : Bool) (h : F_retracelaw25_live  = some r) : FnOK Try.prog 12 [] [] (bo r) [] [] := by
  rw [F_retracelaw25_live] at h
  refine FnOK.intro Try.func12 rfl (by kernel_rfl) (by kernel_rfl) fun E gv R hR => ?_
  refine At.seq ?_
  refine At.region_end [] [] _ (st' := ⟨[], []⟩) (tips := []) (by kernel_rfl) all0 (norm ?_)
  refine At.seq ?_
  refine At.region_end [1] [2] _ (st' := ⟨[(1, .row 0 ([(⟨0, 6, [0], 0, 2, 0, 0, 0, 0, 5, ([] : (List T_api_Alt))⟩ : T_api_Proc), (⟨0, 6, [0], 0, 2, 0, 0, 0, 0, 3, ([] : (List T_api_Alt))⟩ : T_api_Proc)]).length)], [.row 38 11 (encL T_api_Proc.enc ([(⟨0, 6, [0], 0, 2, 0, 0, 0, 0, 5, ([] : (List T_api_Alt))⟩ : T_api_Proc), (⟨0, 6, [0], 0, 2, 0, 0, 0, 0, 3, ([] : (List T_api_Alt))⟩ : T_api_Proc)]))]⟩) (tips := [(4, { settle := [0, 1] })]) (by kernel_rfl) all0 (norm ?_)
  refine At.seq ?_
  obtain ⟨y2, hy2, h⟩ := bind_some h
  refine At.region_end [1, 2, 3] [] _ (st' := ⟨[(1, lv T_api_Proc.enc ([(⟨0, 6, [0], 0, 2, 0, 0, 0, 0, 5, ([] : (List T_api_Alt))⟩ : T_api_Proc), (⟨0, 6, [0], 0, 2, 0, 0, 0, 0, 3, ([] : (List T_api_Alt))⟩ : T_api_Proc)])), (2, i64 y2.1), (3, i64 y2.2)], []⟩) (tips := [(1, { settle := [0], pc := some { ρ := [], n0 := 0, res := .tup [i64 y2.1, i64 y2.2], σ' := [], e := [] } })]) (by kernel_rfl) (allc (C_offer_Find ([(⟨0, 6, [0], 0, 2, 0, 0, 0, 0, 5, ([] : (List T_api_Alt))⟩ : T_api_Proc), (⟨0, 6, [0], 0, 2, 0, 0, 0, 0, 3, ([] : (List T_api_Alt))⟩ : T_api_Proc)]) 1 0 y2 hy2) all0) (norm ?_)
  refine At.seq ?_
  obtain ⟨y5, hy5, h⟩ := bind_some h
  obtain ⟨y6, hy6, h⟩ := bind_some h
  refine At.region_end [2, 3, 4, 5] [] _ (st' := ⟨[(2, i64 y2.1), (3, i64 y2.2), (4, i64 y6.1), (5, bo y6.2)], []⟩) (tips := [(1, { orc := .cells (T_api_Proc.enc y5) }), (3, { pc := some { ρ := [], n0 := 0, res := .tup [i64 y6.1, bo y6.2], σ' := [], e := [] } })]) (by kernel_rfl) (allc (elemAt_of T_api_Proc.enc_len hy5) (allc (C_offer_Of y5 1 0 y6 hy6) all0)) (norm ?_)
  refine At.seqJ (S := Bool) (fun s => ⟨[(0, bo s)], []⟩) (fun s => F_retracelaw25_live_J1 s = some r) ?_ ?_
  · rcases tf (y2.1 == 1) with b15 | b15
    · replace h := cond_t b15 h
      rcases tf (y2.2 == (-1)) with b16 | b16
      · replace h := cond_t b16 h
        rcases tf (y6.1 == (-1)) with b17 | b17
        · replace h := cond_t b17 h
          rcases tf y6.2 with b18 | b18
          · replace h := cond_t b18 h
            obtain ⟨y19, hy19, h⟩ := bind_some h
            rcases y19 with y20 | y21
            · replace h := el_inl h
              refine At.region_end [0] [] _ (st' := ⟨[(0, bo (y20 == 4))], []⟩) (tips := [(2, { orc := .val (.bool true) }), (6, { orc := .val (.bool true) }), (10, { orc := .val (.bool true) }), (13, { orc := .val (.bool true) }), (16, { pc := some { ρ := [0], n0 := 1, res := i64 y20, σ' := [.row 3 1 (encL (eInt .i64) ([0]))], e := [0, 1] } })]) (by kernel_rfl) (allc (congrArg D.bool b15) (allc (congrArg D.bool b16) (allc (congrArg D.bool b17) (allc (congrArg D.bool b18) (allc (C_offer_Value 0 6 0 1 0 4 0 0 0 ([] : List T_api_Alt) (-1) ([0]) (.inl y20) hy19) all0))))) (fun a w hs => ⟨(y20 == 4), h, hs⟩)
            · replace h := el_inr h
              refine At.region_end [0] [] _ (st' := ⟨[(0, bo (y21 == 4))], []⟩) (tips := [(2, { orc := .val (.bool true) }), (6, { orc := .val (.bool true) }), (10, { orc := .val (.bool true) }), (13, { orc := .val (.bool true) }), (16, { pc := some { ρ := [0], n0 := 1, res := i64 y21, σ' := [.dead], e := [0, 1] } })]) (by kernel_rfl) (allc (congrArg D.bool b15) (allc (congrArg D.bool b16) (allc (congrArg D.bool b17) (allc (congrArg D.bool b18) (allc (C_offer_Value 0 6 0 1 0 4 0 0 0 ([] : List T_api_Alt) (-1) ([0]) (.inr y21) hy19) all0))))) (fun a w hs => ⟨(y21 == 4), h, hs⟩)
          · replace h := cond_f b18 h
            refine At.region_end [0] [] _ (st' := ⟨[(0, bo false)], []⟩) (tips := [(2, { orc := .val (.bool true) }), (6, { orc := .val (.bool true) }), (10, { orc := .val (.bool true) }), (13, { orc := .val (.bool false) })]) (by kernel_rfl) (allc (congrArg D.bool b15) (allc (congrArg D.bool b16) (allc (congrArg D.bool b17) (allc (congrArg D.bool b18) all0)))) (fun a w hs => ⟨false, h, hs⟩)
        · replace h := cond_f b17 h
          refine At.region_end [0] [] _ (st' := ⟨[(0, bo false)], []⟩) (tips := [(2, { orc := .val (.bool true) }), (6, { orc := .val (.bool true) }), (10, { orc := .val (.bool false) })]) (by kernel_rfl) (allc (congrArg D.bool b15) (allc (congrArg D.bool b16) (allc (congrArg D.bool b17) all0))) (fun a w hs => ⟨false, h, hs⟩)
      · replace h := cond_f b16 h
        refine At.region_end [0] [] _ (st' := ⟨[(0, bo false)], []⟩) (tips := [(2, { orc := .val (.bool true) }), (6, { orc := .val (.bool false) })]) (by kernel_rfl) (allc (congrArg D.bool b15) (allc (congrArg D.bool b16) all0)) (fun a w hs => ⟨false, h, hs⟩)
    · replace h := cond_f b15 h
      refine At.region_end [0] [] _ (st' := ⟨[(0, bo false)], []⟩) (tips := [(2, { orc := .val (.bool false) })]) (by kernel_rfl) (allc (congrArg D.bool b15) all0) (fun a w hs => ⟨false, h, hs⟩)
  · intro x14 h
    replace h : F_retracelaw25_live_J1 x14 = some r := h
    rw [F_retracelaw25_live_J1] at h
    obtain rfl := some_eq h
    exact At.ret fun a w hs => ret_ok hR (ρ := []) (gs := []) (by kernel_rfl) all0 (by kernel_rfl) rfl rfl a w hs _ (.inl rfl)
set_option maxRecDepth 100000 in
theorem C_retraceref25_Of (p0 : T_api_Proc) (p1 : Int) (p2 : Int) (r : T_retraceref25_Offer) (h : F_retraceref25_Of p0 p1 p2 = some r) : FnOK Try.prog 16 [.agg (T_api_Proc.pvs p0), i64 p1, i64 p2] [] (.agg (T_retraceref25_Offer.pvs r)) [] [] := by
  rw [F_retraceref25_Of] at h
  refine FnOK.intro Try.func16 rfl (by kernel_rfl) (by kernel_rfl) fun E gv R hR => ?_
  refine At.seq ?_
  refine At.region_end [1, 2, 3, 6] [0, 1] _ (st' := ⟨[(1, i64 p1), (2, i64 p2), (3, .ptr 0 0), (6, .ptr 1 0)], [.blk 38 (T_api_Proc.pvs p0), .blk 42 [i64 0, bo false]]⟩) (tips := []) (by kernel_rfl) all0 (norm ?_)
  refine At.seq ?_
  refine At.seqJ (S := Bool) (fun s => ⟨[(1, i64 p1), (2, i64 p2), (3, .ptr 0 0), (6, .ptr 1 0), (13, bo s)], [.blk 38 (T_api_Proc.pvs p0), .blk 42 [i64 0, bo false]]⟩) (fun s => F_retraceref25_Of_J1 p0 p1 p2 s = some r) ?_ ?_
  · rcases tf (p1 != 2) with b110 | b110
    · replace h := cond_t b110 h
      refine At.region_end [1, 2, 3, 6, 13] [0, 1] _ (st' := ⟨[(1, i64 p1), (2, i64 p2), (3, .ptr 0 0), (6, .ptr 1 0), (13, bo (p1 != 1))], [.blk 38 (T_api_Proc.pvs p0), .blk 42 [i64 0, bo false]]⟩) (tips := [(2, { orc := .val (.bool true) })]) (by kernel_rfl) (allc (congrArg D.bool b110) all0) (fun a w hs => ⟨(p1 != 1), h, hs⟩)
    · replace h := cond_f b110 h
      refine At.region_end [1, 2, 3, 6, 13] [0, 1] _ (st' := ⟨[(1, i64 p1), (2, i64 p2), (3, .ptr 0 0), (6, .ptr 1 0), (13, bo false)], [.blk 38 (T_api_Proc.pvs p0), .blk 42 [i64 0, bo false]]⟩) (tips := [(2, { orc := .val (.bool false) })]) (by kernel_rfl) (allc (congrArg D.bool b110) all0) (fun a w hs => ⟨false, h, hs⟩)
  · intro x6 h
    replace h : F_retraceref25_Of_J1 p0 p1 p2 x6 = some r := h
    rw [F_retraceref25_Of_J1] at h
    refine At.cond x6 (by kernel_rfl) (fun b7 => ?_) (fun b7 => ?_)
    · replace h := cond_t b7 h
      refine At.seq ?_
      refine At.region_end [6] [1] _ (st' := ⟨[(6, .ptr 0 0)], [.blk 42 [i64 0, bo false]]⟩) (tips := []) (by kernel_rfl) all0 (norm ?_)
      obtain rfl := some_eq h
      exact At.ret fun a w hs => ret_ok hR (ρ := []) (gs := []) (by kernel_rfl) all0 (by kernel_rfl) rfl rfl a w hs _ (.inl rfl)
    · replace h := cond_f b7 h
      refine At.nar [1, 2, 3, 6] [0, 1] (st' := ⟨[(1, i64 p1), (2, i64 p2), (3, .ptr 0 0), (6, .ptr 1 0)], [.blk 38 (T_api_Proc.pvs p0), .blk 42 [i64 0, bo false]]⟩) (by kernel_rfl) ?_
      refine At.skip (norm ?_)
      refine At.seq ?_
      refine At.seqJ (S := Bool) (fun s => ⟨[(1, i64 p1), (2, i64 p2), (3, .ptr 0 0), (6, .ptr 1 0), (42, bo s)], [.blk 38 (T_api_Proc.pvs p0), .blk 42 [i64 0, bo false]]⟩) (fun s => F_retraceref25_Of_J2 p0 p1 p2 s = some r) ?_ ?_
      · rcases tf (p0.Mode == 1) with b101 | b101
        · replace h := cond_t b101 h
          rcases tf (p1 == 2) with b102 | b102
          · replace h := cond_t b102 h
            rcases tf (p0.Chan == p2) with b103 | b103
            · replace h := cond_t b103 h
              refine At.region_end [1, 2, 3, 6, 42] [0, 1] _ (st' := ⟨[(1, i64 p1), (2, i64 p2), (3, .ptr 0 0), (6, .ptr 1 0), (42, bo true)], [.blk 38 (T_api_Proc.pvs p0), .blk 42 [i64 0, bo false]]⟩) (tips := [(3, { orc := .val (.bool true) }), (7, { orc := .val (.bool true) }), (13, { orc := .val (.bool true) })]) (by kernel_rfl) (allc (congrArg D.bool b101) (allc (congrArg D.bool b102) (allc (congrArg D.bool b103) all0))) (fun a w hs => ⟨true, h, hs⟩)
            · replace h := cond_f b103 h
              rcases tf (p0.Mode == 2) with b104 | b104
              · replace h := cond_t b104 h
                rcases tf (p1 == 1) with b105 | b105
                · replace h := cond_t b105 h
                  refine At.region_end [1, 2, 3, 6, 42] [0, 1] _ (st' := ⟨[(1, i64 p1), (2, i64 p2), (3, .ptr 0 0), (6, .ptr 1 0), (42, bo (p0.Chan == p2))], [.blk 38 (T_api_Proc.pvs p0), .blk 42 [i64 0, bo false]]⟩) (tips := [(3, { orc := .val (.bool true) }), (7, { orc := .val (.bool true) }), (13, { orc := .val (.bool false) }), (17, { orc := .val (.bool true) }), (21, { orc := .val (.bool true) })]) (by kernel_rfl) (allc (congrArg D.bool b101) (allc (congrArg D.bool b102) (allc (congrArg D.bool b103) (allc (congrArg D.bool b104) (allc (congrArg D.bool b105) all0))))) (fun a w hs => ⟨(p0.Chan == p2), h, hs⟩)
                · replace h := cond_f b105 h
                  refine At.region_end [1, 2, 3, 6, 42] [0, 1] _ (st' := ⟨[(1, i64 p1), (2, i64 p2), (3, .ptr 0 0), (6, .ptr 1 0), (42, bo false)], [.blk 38 (T_api_Proc.pvs p0), .blk 42 [i64 0, bo false]]⟩) (tips := [(3, { orc := .val (.bool true) }), (7, { orc := .val (.bool true) }), (13, { orc := .val (.bool false) }), (17, { orc := .val (.bool true) }), (21, { orc := .val (.bool false) })]) (by kernel_rfl) (allc (congrArg D.bool b101) (allc (congrArg D.bool b102) (allc (congrArg D.bool b103) (allc (congrArg D.bool b104) (allc (congrArg D.bool b105) all0))))) (fun a w hs => ⟨false, h, hs⟩)
              · replace h := cond_f b104 h
                refine At.region_end [1, 2, 3, 6, 42] [0, 1] _ (st' := ⟨[(1, i64 p1), (2, i64 p2), (3, .ptr 0 0), (6, .ptr 1 0), (42, bo false)], [.blk 38 (T_api_Proc.pvs p0), .blk 42 [i64 0, bo false]]⟩) (tips := [(3, { orc := .val (.bool true) }), (7, { orc := .val (.bool true) }), (13, { orc := .val (.bool false) }), (17, { orc := .val (.bool false) })]) (by kernel_rfl) (allc (congrArg D.bool b101) (allc (congrArg D.bool b102) (allc (congrArg D.bool b103) (allc (congrArg D.bool b104) all0)))) (fun a w hs => ⟨false, h, hs⟩)
          · replace h := cond_f b102 h
            rcases tf (p0.Mode == 2) with b106 | b106
            · replace h := cond_t b106 h
              rcases tf (p1 == 1) with b107 | b107
              · replace h := cond_t b107 h
                refine At.region_end [1, 2, 3, 6, 42] [0, 1] _ (st' := ⟨[(1, i64 p1), (2, i64 p2), (3, .ptr 0 0), (6, .ptr 1 0), (42, bo (p0.Chan == p2))], [.blk 38 (T_api_Proc.pvs p0), .blk 42 [i64 0, bo false]]⟩) (tips := [(3, { orc := .val (.bool true) }), (7, { orc := .val (.bool false) }), (17, { orc := .val (.bool true) }), (21, { orc := .val (.bool true) })]) (by kernel_rfl) (allc (congrArg D.bool b101) (allc (congrArg D.bool b102) (allc (congrArg D.bool b106) (allc (congrArg D.bool b107) all0)))) (fun a w hs => ⟨(p0.Chan == p2), h, hs⟩)
              · replace h := cond_f b107 h
                refine At.region_end [1, 2, 3, 6, 42] [0, 1] _ (st' := ⟨[(1, i64 p1), (2, i64 p2), (3, .ptr 0 0), (6, .ptr 1 0), (42, bo false)], [.blk 38 (T_api_Proc.pvs p0), .blk 42 [i64 0, bo false]]⟩) (tips := [(3, { orc := .val (.bool true) }), (7, { orc := .val (.bool false) }), (17, { orc := .val (.bool true) }), (21, { orc := .val (.bool false) })]) (by kernel_rfl) (allc (congrArg D.bool b101) (allc (congrArg D.bool b102) (allc (congrArg D.bool b106) (allc (congrArg D.bool b107) all0)))) (fun a w hs => ⟨false, h, hs⟩)
            · replace h := cond_f b106 h
              refine At.region_end [1, 2, 3, 6, 42] [0, 1] _ (st' := ⟨[(1, i64 p1), (2, i64 p2), (3, .ptr 0 0), (6, .ptr 1 0), (42, bo false)], [.blk 38 (T_api_Proc.pvs p0), .blk 42 [i64 0, bo false]]⟩) (tips := [(3, { orc := .val (.bool true) }), (7, { orc := .val (.bool false) }), (17, { orc := .val (.bool false) })]) (by kernel_rfl) (allc (congrArg D.bool b101) (allc (congrArg D.bool b102) (allc (congrArg D.bool b106) all0))) (fun a w hs => ⟨false, h, hs⟩)
        · replace h := cond_f b101 h
          rcases tf (p0.Mode == 2) with b108 | b108
          · replace h := cond_t b108 h
            rcases tf (p1 == 1) with b109 | b109
            · replace h := cond_t b109 h
              refine At.region_end [1, 2, 3, 6, 42] [0, 1] _ (st' := ⟨[(1, i64 p1), (2, i64 p2), (3, .ptr 0 0), (6, .ptr 1 0), (42, bo (p0.Chan == p2))], [.blk 38 (T_api_Proc.pvs p0), .blk 42 [i64 0, bo false]]⟩) (tips := [(3, { orc := .val (.bool false) }), (17, { orc := .val (.bool true) }), (21, { orc := .val (.bool true) })]) (by kernel_rfl) (allc (congrArg D.bool b101) (allc (congrArg D.bool b108) (allc (congrArg D.bool b109) all0))) (fun a w hs => ⟨(p0.Chan == p2), h, hs⟩)
            · replace h := cond_f b109 h
              refine At.region_end [1, 2, 3, 6, 42] [0, 1] _ (st' := ⟨[(1, i64 p1), (2, i64 p2), (3, .ptr 0 0), (6, .ptr 1 0), (42, bo false)], [.blk 38 (T_api_Proc.pvs p0), .blk 42 [i64 0, bo false]]⟩) (tips := [(3, { orc := .val (.bool false) }), (17, { orc := .val (.bool true) }), (21, { orc := .val (.bool false) })]) (by kernel_rfl) (allc (congrArg D.bool b101) (allc (congrArg D.bool b108) (allc (congrArg D.bool b109) all0))) (fun a w hs => ⟨false, h, hs⟩)
          · replace h := cond_f b108 h
            refine At.region_end [1, 2, 3, 6, 42] [0, 1] _ (st' := ⟨[(1, i64 p1), (2, i64 p2), (3, .ptr 0 0), (6, .ptr 1 0), (42, bo false)], [.blk 38 (T_api_Proc.pvs p0), .blk 42 [i64 0, bo false]]⟩) (tips := [(3, { orc := .val (.bool false) }), (17, { orc := .val (.bool false) })]) (by kernel_rfl) (allc (congrArg D.bool b101) (allc (congrArg D.bool b108) all0)) (fun a w hs => ⟨false, h, hs⟩)
      · intro x37 h
        replace h : F_retraceref25_Of_J2 p0 p1 p2 x37 = some r := h
        rw [F_retraceref25_Of_J2] at h
        refine At.cond x37 (by kernel_rfl) (fun b38 => ?_) (fun b38 => ?_)
        · replace h := cond_t b38 h
          refine At.seq ?_
          refine At.region_end [6] [1] _ (st' := ⟨[(6, .ptr 0 0)], [.blk 42 [i64 (-1), bo true]]⟩) (tips := []) (by kernel_rfl) all0 (norm ?_)
          obtain rfl := some_eq h
          exact At.ret fun a w hs => ret_ok hR (ρ := []) (gs := []) (by kernel_rfl) all0 (by kernel_rfl) rfl rfl a w hs _ (.inl rfl)
        · replace h := cond_f b38 h
          refine At.nar [1, 2, 3, 6] [0, 1] (st' := ⟨[(1, i64 p1), (2, i64 p2), (3, .ptr 0 0), (6, .ptr 1 0)], [.blk 38 (T_api_Proc.pvs p0), .blk 42 [i64 0, bo false]]⟩) (by kernel_rfl) ?_
          refine At.skip (norm ?_)
          refine At.seq ?_
          refine At.seq ?_
          refine At.region_end [1, 2, 3, 6, 7] [0, 1] _ (st' := ⟨[(1, i64 p1), (2, i64 p2), (3, .ptr 0 0), (6, .ptr 1 0), (7, i64 0)], [.blk 38 (T_api_Proc.pvs p0), .blk 42 [i64 0, bo false]]⟩) (tips := []) (by kernel_rfl) all0 (norm ?_)
          refine At.block ?_
          refine At.loop (fun s : (Int) => F_retraceref25_Of_L5 p0 p1 p2 s) (fun s : (Int) => ⟨[(1, i64 p1), (2, i64 p2), (3, .ptr 0 0), (6, .ptr 1 0), (7, i64 s)], [.blk 38 (T_api_Proc.pvs p0), .blk 42 [i64 0, bo false]]⟩) r 0 h ?_
          intro x70 oo71 h f72
          replace h : F_retraceref25_Of_L5 p0 p1 p2 x70 = some oo71 := h
          rw [F_retraceref25_Of_L5] at h
          refine At.seq ?_
          refine At.seqJ (S := Bool) (fun s => ⟨[(1, i64 p1), (2, i64 p2), (3, .ptr 0 0), (6, .ptr 1 0), (7, i64 x70), (53, bo s)], [.blk 38 (T_api_Proc.pvs p0), .blk 42 [i64 0, bo false]]⟩) (fun s => F_retraceref25_Of_J3 p0 p1 p2 x70 s = some oo71) ?_ ?_
          · rcases tf (decide (x70 < ((p0.Alts).length : Int))) with b100 | b100
            · replace h := cond_t b100 h
              refine At.region_end [1, 2, 3, 6, 7, 53] [0, 1] _ (st' := ⟨[(1, i64 p1), (2, i64 p2), (3, .ptr 0 0), (6, .ptr 1 0), (7, i64 x70), (53, bo (p0.Mode == 3))], [.blk 38 (T_api_Proc.pvs p0), .blk 42 [i64 0, bo false]]⟩) (tips := [(5, { orc := .val (.bool true) })]) (by kernel_rfl) (allc (congrArg D.bool b100) all0) (fun a w hs => ⟨(p0.Mode == 3), h, hs⟩)
            · replace h := cond_f b100 h
              refine At.region_end [1, 2, 3, 6, 7, 53] [0, 1] _ (st' := ⟨[(1, i64 p1), (2, i64 p2), (3, .ptr 0 0), (6, .ptr 1 0), (7, i64 x70), (53, bo false)], [.blk 38 (T_api_Proc.pvs p0), .blk 42 [i64 0, bo false]]⟩) (tips := [(5, { orc := .val (.bool false) })]) (by kernel_rfl) (allc (congrArg D.bool b100) all0) (fun a w hs => ⟨false, h, hs⟩)
          · intro x78 h
            replace h : F_retraceref25_Of_J3 p0 p1 p2 x70 x78 = some oo71 := h
            rw [F_retraceref25_Of_J3] at h
            refine At.cond x78 (by kernel_rfl) (fun b79 => ?_) (fun b79 => ?_)
            · replace h := cond_t b79 h
              refine At.nar [1, 2, 3, 6, 7] [0, 1] (st' := ⟨[(1, i64 p1), (2, i64 p2), (3, .ptr 0 0), (6, .ptr 1 0), (7, i64 x70)], [.blk 38 (T_api_Proc.pvs p0), .blk 42 [i64 0, bo false]]⟩) (by kernel_rfl) ?_
              refine At.skip (norm ?_)
              refine At.seq ?_
              refine At.block ?_
              refine At.seqJ (S := Bool) (fun s => ⟨[(1, i64 p1), (2, i64 p2), (3, .ptr 0 0), (6, .ptr 1 0), (7, i64 x70), (73, bo s)], [.blk 38 (T_api_Proc.pvs p0), .blk 42 [i64 0, bo false]]⟩) (fun s => F_retraceref25_Of_J4 x70 s = some oo71) ?_ ?_
              · obtain ⟨y95, hy95, h⟩ := bind_some h
                rcases tf (y95.Kind == p1) with b96 | b96
                · replace h := cond_t b96 h
                  obtain ⟨y97, hy97, h⟩ := bind_some h
                  refine At.region_end [1, 2, 3, 6, 7, 73] [0, 1] _ (st' := ⟨[(1, i64 p1), (2, i64 p2), (3, .ptr 0 0), (6, .ptr 1 0), (7, i64 x70), (73, bo (y97.Chan == p2))], [.blk 38 (T_api_Proc.pvs p0), .blk 42 [i64 0, bo false]]⟩) (tips := [(3, { orc := .cells (T_api_Alt.enc y95) }), (8, { orc := .val (.bool true) }), (12, { orc := .cells (T_api_Alt.enc y97) })]) (by kernel_rfl) (allc (elemAt_of T_api_Alt.enc_len hy95) (allc (congrArg D.bool b96) (allc (elemAt_of T_api_Alt.enc_len hy97) all0))) (fun a w hs => ⟨(y97.Chan == p2), h, hs⟩)
                · replace h := cond_f b96 h
                  refine At.region_end [1, 2, 3, 6, 7, 73] [0, 1] _ (st' := ⟨[(1, i64 p1), (2, i64 p2), (3, .ptr 0 0), (6, .ptr 1 0), (7, i64 x70), (73, bo false)], [.blk 38 (T_api_Proc.pvs p0), .blk 42 [i64 0, bo false]]⟩) (tips := [(3, { orc := .cells (T_api_Alt.enc y95) }), (8, { orc := .val (.bool false) })]) (by kernel_rfl) (allc (elemAt_of T_api_Alt.enc_len hy95) (allc (congrArg D.bool b96) all0)) (fun a w hs => ⟨false, h, hs⟩)
              · intro x91 h
                replace h : F_retraceref25_Of_J4 x70 x91 = some oo71 := h
                rw [F_retraceref25_Of_J4] at h
                refine At.cond x91 (by kernel_rfl) (fun b92 => ?_) (fun b92 => ?_)
                · replace h := cond_t b92 h
                  refine At.seq ?_
                  refine At.region_end [6] [1] _ (st' := ⟨[(6, .ptr 0 0)], [.blk 42 [i64 x70, bo true]]⟩) (tips := []) (by kernel_rfl) all0 (norm ?_)
                  obtain ⟨r93, h, e94⟩ := map_inr h
                  rw [f72 _ e94] at h
                  obtain rfl := some_eq h
                  exact At.ret fun a w hs => ret_ok hR (ρ := []) (gs := []) (by kernel_rfl) all0 (by kernel_rfl) rfl rfl a w hs _ (.inl rfl)
                · replace h := cond_f b92 h
                  refine At.nar [1, 2, 3, 6, 7] [0, 1] (st' := ⟨[(1, i64 p1), (2, i64 p2), (3, .ptr 0 0), (6, .ptr 1 0), (7, i64 x70)], [.blk 38 (T_api_Proc.pvs p0), .blk 42 [i64 0, bo false]]⟩) (by kernel_rfl) ?_
                  refine At.skip (norm ?_)
                  refine At.region_end [1, 2, 3, 6, 7] [0, 1] _ (st' := ⟨[(1, i64 p1), (2, i64 p2), (3, .ptr 0 0), (6, .ptr 1 0), (7, i64 (w64 (x70 + 1)))], [.blk 38 (T_api_Proc.pvs p0), .blk 42 [i64 0, bo false]]⟩) (tips := []) (by kernel_rfl) all0 (fun a w hs => ⟨_, (some_eq h).symm, hs⟩)
            · replace h := cond_f b79 h
              refine At.nar [6] [1] (st' := ⟨[(6, .ptr 0 0)], [.blk 42 [i64 0, bo false]]⟩) (by kernel_rfl) ?_
              obtain ⟨r98, h, e99⟩ := map_inr h
              rw [f72 _ e99] at h
              refine At.exit (norm ?_)
              refine At.seq ?_
              refine At.region_end [6] [0] _ (st' := ⟨[(6, .ptr 0 0)], [.blk 42 [i64 0, bo false]]⟩) (tips := []) (by kernel_rfl) all0 (norm ?_)
              obtain rfl := some_eq h
              exact At.ret fun a w hs => ret_ok hR (ρ := []) (gs := []) (by kernel_rfl) all0 (by kernel_rfl) rfl rfl a w hs _ (.inl rfl)
set_option maxRecDepth 100000 in
theorem C_retraceref25_Find (p0 : (List T_api_Proc)) (p1 : Int) (p2 : Int) (r : (List Int)) (h : F_retraceref25_Find p0 p1 p2 = some r) : FnOK Try.prog 14 [lv T_api_Proc.enc p0, i64 p1, i64 p2] [] (.dagg (encL (eInt .i64) r)) [] [] := by
  rw [F_retraceref25_Find] at h
  refine FnOK.intro Try.func14 rfl (by kernel_rfl) (by kernel_rfl) fun E gv R hR => ?_
  refine At.seq ?_
  refine At.region_end [0, 1, 2, 6] [0] _ (st' := ⟨[(0, lv T_api_Proc.enc p0), (1, i64 p1), (2, i64 p2), (6, .ptr 0 0)], [.dblk 32 (encL (eInt .i64) (List.replicate 2 (0 : Int)))]⟩) (tips := []) (by kernel_rfl) all0 (norm ?_)
  refine At.seq ?_
  obtain ⟨g2, h⟩ := grd_some h
  refine At.region_end [0, 1, 2, 6, 7] [0, 1] _ (st' := ⟨[(0, lv T_api_Proc.enc p0), (1, i64 p1), (2, i64 p2), (6, .ptr 0 0), (7, .ptr 1 0)], [.dblk 32 (encL (eInt .i64) (List.replicate 2 (0 : Int))), .dblk 32 (encL (eInt .i64) ([(-1), (-1)] : List Int))]⟩) (tips := []) (by kernel_rfl) (allc (lenN (he_int .i64) ([(-1), (-1)] : List Int) g2.1) (allc (lenN (he_int .i64) (List.replicate 2 (0 : Int)) g2.2) all0)) (norm ?_)
  refine At.seq ?_
  refine At.seq ?_
  refine At.region_end [0, 1, 2, 6, 7, 8] [0, 1] _ (st' := ⟨[(0, lv T_api_Proc.enc p0), (1, i64 p1), (2, i64 p2), (6, .ptr 0 0), (7, .ptr 1 0), (8, i64 (w64 (((p0).length : Int) - 1)))], [.dblk 32 (encL (eInt .i64) (List.replicate 2 (0 : Int))), .dblk 32 (encL (eInt .i64) ([(-1), (-1)] : List Int))]⟩) (tips := []) (by kernel_rfl) all0 (norm ?_)
  refine At.block ?_
  refine At.loop (fun s : (Int × (List Int)) => F_retraceref25_Find_L3 p0 p1 p2 s.1 s.2) (fun s : (Int × (List Int)) => ⟨[(0, lv T_api_Proc.enc p0), (1, i64 p1), (2, i64 p2), (6, .ptr 0 0), (7, .ptr 1 0), (8, i64 s.1)], [.dblk 32 (encL (eInt .i64) (List.replicate 2 (0 : Int))), .dblk 32 (encL (eInt .i64) s.2)]⟩) r ((w64 (((p0).length : Int) - 1)), ([(-1), (-1)] : List Int)) h ?_
  rintro ⟨x50, x51⟩ oo52 h f53
  replace h : F_retraceref25_Find_L3 p0 p1 p2 x50 x51 = some oo52 := h
  rw [F_retraceref25_Find_L3] at h
  refine At.seq ?_
  refine At.seq ?_
  refine At.region_end [0, 1, 2, 6, 7, 8, 15] [0, 1] _ (st' := ⟨[(0, lv T_api_Proc.enc p0), (1, i64 p1), (2, i64 p2), (6, .ptr 0 0), (7, .ptr 1 0), (8, i64 x50), (15, bo (decide (0 ≤ x50)))], [.dblk 32 (encL (eInt .i64) (List.replicate 2 (0 : Int))), .dblk 32 (encL (eInt .i64) x51)]⟩) (tips := []) (by kernel_rfl) all0 (norm ?_)
  refine At.cond (decide (0 ≤ x50)) (by kernel_rfl) (fun b55 => ?_) (fun b55 => ?_)
  · replace h := cond_t b55 h
    refine At.nar [0, 1, 2, 6, 7, 8] [0, 1] (st' := ⟨[(0, lv T_api_Proc.enc p0), (1, i64 p1), (2, i64 p2), (6, .ptr 0 0), (7, .ptr 1 0), (8, i64 x50)], [.dblk 32 (encL (eInt .i64) (List.replicate 2 (0 : Int))), .dblk 32 (encL (eInt .i64) x51)]⟩) (by kernel_rfl) ?_
    refine At.skip (norm ?_)
    refine At.seqJ (S := (List Int)) (fun s => ⟨[(0, lv T_api_Proc.enc p0), (1, i64 p1), (2, i64 p2), (6, .ptr 0 0), (7, .ptr 1 0), (8, i64 x50)], [.dblk 32 (encL (eInt .i64) (List.replicate 2 (0 : Int))), .dblk 32 (encL (eInt .i64) s)]⟩) (fun s => F_retraceref25_Find_J1 x50 s = some oo52) ?_ ?_
    · refine At.block ?_
      refine At.seq ?_
      obtain ⟨y78, hy78, h⟩ := bind_some h
      obtain ⟨y79, hy79, h⟩ := bind_some h
      refine At.region_end [0, 1, 2, 6, 7, 8, 9] [0, 1, 2] _ (st' := ⟨[(0, lv T_api_Proc.enc p0), (1, i64 p1), (2, i64 p2), (6, .ptr 0 0), (7, .ptr 1 0), (8, i64 x50), (9, .ptr 2 0)], [.dblk 32 (encL (eInt .i64) (List.replicate 2 (0 : Int))), .dblk 32 (encL (eInt .i64) x51), .blk 42 (T_retraceref25_Offer.pvs y79)]⟩) (tips := [(2, { orc := .cells (T_api_Proc.enc y78) }), (6, { pc := some { ρ := [], n0 := 0, res := .agg (T_retraceref25_Offer.pvs y79), σ' := [], e := [] } })]) (by kernel_rfl) (allc (elemAt_of T_api_Proc.enc_len hy78) (allc (C_retraceref25_Of y78 p1 p2 y79 hy79) all0)) (norm ?_)
      refine At.seqJ (S := Bool) (fun s => ⟨[(0, lv T_api_Proc.enc p0), (1, i64 p1), (2, i64 p2), (6, .ptr 0 0), (7, .ptr 1 0), (8, i64 x50), (9, .ptr 2 0), (45, bo s)], [.dblk 32 (encL (eInt .i64) (List.replicate 2 (0 : Int))), .dblk 32 (encL (eInt .i64) x51), .blk 42 (T_retraceref25_Offer.pvs y79)]⟩) (fun s => F_retraceref25_Find_J2 x50 x51 y79 s = some oo52) ?_ ?_
      · rcases tf y79.Ok with b89 | b89
        · replace h := cond_t b89 h
          obtain ⟨y90, hy90, h⟩ := bind_some h
          rcases tf (decide (y90 < 0)) with b91 | b91
          · replace h := cond_t b91 h
            refine At.draw_end mixedOrd 0 [0, 1, 2, 6, 7, 8, 9, 45] [0, 1, 2] _ (st' := ⟨[(0, lv T_api_Proc.enc p0), (1, i64 p1), (2, i64 p2), (6, .ptr 0 0), (7, .ptr 1 0), (8, i64 x50), (9, .ptr 2 0), (45, bo true)], [.dblk 32 (encL (eInt .i64) (List.replicate 2 (0 : Int))), .dblk 32 (encL (eInt .i64) x51), .blk 42 (T_retraceref25_Offer.pvs y79)]⟩) (tips := [(0, { r := 3 }), (1, { T := [2], r := 3 }), (2, { tip := { orc := .val (.bool true) } }), (3, { r := 3 }), (4, { tip := { orc := .val (.int .i64 y90) }, T := [1], r := 3 }), (6, { tip := { orc := .val (.bool true) } }), (13, { r := 3 })]) (by kernel_rfl) (allc (congrArg D.bool b89) (allc ((aAt_of (he_int .i64) (d := .int .i64 y90) hy90 rfl).1) (allc ((aAt_of (he_int .i64) (d := .int .i64 y90) hy90 rfl).2) (allc (congrArg D.bool b91) all0)))) (fun a w hs => ⟨true, h, hs⟩)
          · replace h := cond_f b91 h
            obtain ⟨y92, hy92, h⟩ := bind_some h
            obtain ⟨y93, hy93, h⟩ := bind_some h
            obtain ⟨y94, hy94, h⟩ := bind_some h
            refine At.draw_end mixedOrd 0 [0, 1, 2, 6, 7, 8, 9, 45] [0, 1, 2] _ (st' := ⟨[(0, lv T_api_Proc.enc p0), (1, i64 p1), (2, i64 p2), (6, .ptr 0 0), (7, .ptr 1 0), (8, i64 x50), (9, .ptr 2 0), (45, bo (decide (y92.Since ≤ y94.Since)))], [.dblk 32 (encL (eInt .i64) (List.replicate 2 (0 : Int))), .dblk 32 (encL (eInt .i64) x51), .blk 42 (T_retraceref25_Offer.pvs y79)]⟩) (tips := [(0, { r := 3 }), (1, { T := [2], r := 3 }), (2, { tip := { orc := .val (.bool true) } }), (3, { r := 3 }), (4, { tip := { orc := .val (.int .i64 y90) }, T := [1], r := 3 }), (6, { tip := { orc := .val (.bool false) } }), (9, { tip := { orc := .cells (T_api_Proc.enc y92) } }), (13, { r := 3 }), (14, { tip := { orc := .val (.int .i64 y93) }, T := [1], r := 3 }), (15, { tip := { orc := .cells (T_api_Proc.enc y94) } })]) (by kernel_rfl) (allc (congrArg D.bool b89) (allc ((aAt_of (he_int .i64) (d := .int .i64 y90) hy90 rfl).1) (allc ((aAt_of (he_int .i64) (d := .int .i64 y90) hy90 rfl).2) (allc (congrArg D.bool b91) (allc (elemAt_of T_api_Proc.enc_len hy92) (allc ((aAt_of (he_int .i64) (d := .int .i64 y93) hy93 rfl).1) (allc ((aAt_of (he_int .i64) (d := .int .i64 y93) hy93 rfl).2) (allc (elemAt_of T_api_Proc.enc_len hy94) all0)))))))) (fun a w hs => ⟨(decide (y92.Since ≤ y94.Since)), h, hs⟩)
        · replace h := cond_f b89 h
          refine At.draw_end mixedOrd 0 [0, 1, 2, 6, 7, 8, 9, 45] [0, 1, 2] _ (st' := ⟨[(0, lv T_api_Proc.enc p0), (1, i64 p1), (2, i64 p2), (6, .ptr 0 0), (7, .ptr 1 0), (8, i64 x50), (9, .ptr 2 0), (45, bo false)], [.dblk 32 (encL (eInt .i64) (List.replicate 2 (0 : Int))), .dblk 32 (encL (eInt .i64) x51), .blk 42 (T_retraceref25_Offer.pvs y79)]⟩) (tips := [(0, { r := 3 }), (1, { T := [2], r := 3 }), (2, { tip := { orc := .val (.bool false) } }), (3, { r := 3 }), (13, { r := 3 })]) (by kernel_rfl) (allc (congrArg D.bool b89) all0) (fun a w hs => ⟨false, h, hs⟩)
      · intro x86 h
        replace h : F_retraceref25_Find_J2 x50 x51 y79 x86 = some oo52 := h
        rw [F_retraceref25_Find_J2] at h
        refine At.cond x86 (by kernel_rfl) (fun b87 => ?_) (fun b87 => ?_)
        · replace h := cond_t b87 h
          obtain ⟨g88, h⟩ := grd_some h
          refine At.region_end [0, 1, 2, 6, 7, 8] [0, 1] _ (st' := ⟨[(0, lv T_api_Proc.enc p0), (1, i64 p1), (2, i64 p2), (6, .ptr 0 0), (7, .ptr 1 0), (8, i64 x50)], [.dblk 32 (encL (eInt .i64) (List.replicate 2 (0 : Int))), .dblk 32 (encL (eInt .i64) ([x50, y79.Place] : List Int))]⟩) (tips := []) (by kernel_rfl) (allc (lenN (he_int .i64) ([x50, y79.Place] : List Int) g88.1) (allc (lenN (he_int .i64) x51 g88.2) all0)) (fun a w hs => ⟨([x50, y79.Place] : List Int), h, hs⟩)
        · replace h := cond_f b87 h
          refine At.nar [0, 1, 2, 6, 7, 8] [0, 1] (st' := ⟨[(0, lv T_api_Proc.enc p0), (1, i64 p1), (2, i64 p2), (6, .ptr 0 0), (7, .ptr 1 0), (8, i64 x50)], [.dblk 32 (encL (eInt .i64) (List.replicate 2 (0 : Int))), .dblk 32 (encL (eInt .i64) x51)]⟩) (by kernel_rfl) ?_
          refine At.skip (fun a w hs => ⟨x51, h, hs⟩)
    · intro x75 h
      replace h : F_retraceref25_Find_J1 x50 x75 = some oo52 := h
      rw [F_retraceref25_Find_J1] at h
      refine At.region_end [0, 1, 2, 6, 7, 8] [0, 1] _ (st' := ⟨[(0, lv T_api_Proc.enc p0), (1, i64 p1), (2, i64 p2), (6, .ptr 0 0), (7, .ptr 1 0), (8, i64 (w64 (x50 - 1)))], [.dblk 32 (encL (eInt .i64) (List.replicate 2 (0 : Int))), .dblk 32 (encL (eInt .i64) x75)]⟩) (tips := []) (by kernel_rfl) all0 (fun a w hs => ⟨_, (some_eq h).symm, hs⟩)
  · replace h := cond_f b55 h
    refine At.nar [6, 7] [0, 1] (st' := ⟨[(6, .ptr 0 0), (7, .ptr 1 0)], [.dblk 32 (encL (eInt .i64) (List.replicate 2 (0 : Int))), .dblk 32 (encL (eInt .i64) x51)]⟩) (by kernel_rfl) ?_
    obtain ⟨r95, h, e96⟩ := map_inr h
    rw [f53 _ e96] at h
    refine At.exit (norm ?_)
    refine At.seq ?_
    obtain ⟨g99, h⟩ := grd_some h
    obtain ⟨g100, h⟩ := grd_some h
    refine At.region_end [6] [0] _ (st' := ⟨[(6, .ptr 0 0)], [.dblk 32 (encL (eInt .i64) x51)]⟩) (tips := []) (by kernel_rfl) (allc (lenN (he_int .i64) x51 g99) (allc (lenN (he_int .i64) x51 g100.1) (allc (lenN (he_int .i64) (List.replicate 2 (0 : Int)) g100.2) all0))) (norm ?_)
    obtain ⟨g101, h⟩ := grd_some h
    obtain rfl := some_eq h
    exact At.ret fun a w hs => ret_ok hR (ρ := []) (gs := []) (by kernel_rfl) (allc (lenN (he_int .i64) x51 g101) all0) (by kernel_rfl) rfl rfl a w hs _ (.inl rfl)
set_option maxRecDepth 100000 in
theorem C_retracelaw25_OfferFinds (p0 : T_api_Code) (p1 : (List T_api_Proc)) (p2 : Int) (p3 : Int) (r : Bool) (h : F_retracelaw25_OfferFinds p0 p1 p2 p3 = some r) : FnOK Try.prog 3 [.agg (T_api_Code.pvs p0), lv T_api_Proc.enc p1, i64 p2, i64 p3] [] (bo r) [] [] := by
  rw [F_retracelaw25_OfferFinds] at h
  refine FnOK.intro Try.func3 rfl (by kernel_rfl) (by kernel_rfl) fun E gv R hR => ?_
  refine At.seq ?_
  refine At.region_end [1, 2, 3, 4] [0] _ (st' := ⟨[(1, lv T_api_Proc.enc p1), (2, i64 p2), (3, i64 p3), (4, .ptr 0 0)], [.blk 26 (T_api_Code.pvs p0)]⟩) (tips := []) (by kernel_rfl) all0 (norm ?_)
  refine At.seq ?_
  refine At.seq ?_
  obtain ⟨y7, hy7, h⟩ := bind_some h
  refine At.region_end [1, 2, 3, 14] [] _ (st' := ⟨[(1, lv T_api_Proc.enc p1), (2, i64 p2), (3, i64 p3), (14, bo (!y7))], []⟩) (tips := [(2, { pc := some { ρ := [], n0 := 0, res := bo y7, σ' := [], e := [] } })]) (by kernel_rfl) (allc (C_retracelaw25_small p0 p1 y7 hy7) all0) (norm ?_)
  refine At.cond (!y7) (by kernel_rfl) (fun b8 => ?_) (fun b8 => ?_)
  · replace h := cond_t b8 h
    refine At.seq ?_
    obtain ⟨y10, hy10, h⟩ := bind_some h
    refine At.region_end [8] [] _ (st' := ⟨[(8, bo y10)], []⟩) (tips := [(0, { pc := some { ρ := [], n0 := 0, res := bo y10, σ' := [], e := [] } })]) (by kernel_rfl) (allc (C_retracelaw25_live y10 hy10) all0) (norm ?_)
    obtain rfl := some_eq h
    exact At.ret fun a w hs => ret_ok hR (ρ := []) (gs := []) (by kernel_rfl) all0 (by kernel_rfl) rfl rfl a w hs _ (.inl rfl)
  · replace h := cond_f b8 h
    refine At.nar [1, 2, 3] [] (st' := ⟨[(1, lv T_api_Proc.enc p1), (2, i64 p2), (3, i64 p3)], []⟩) (by kernel_rfl) ?_
    refine At.skip (norm ?_)
    refine At.seq ?_
    obtain ⟨y12, hy12, h⟩ := bind_some h
    refine At.region_end [1, 2, 3, 9, 10] [] _ (st' := ⟨[(1, lv T_api_Proc.enc p1), (2, i64 p2), (3, i64 p3), (9, i64 y12.1), (10, i64 y12.2)], []⟩) (tips := [(3, { pc := some { ρ := [], n0 := 0, res := .tup [i64 y12.1, i64 y12.2], σ' := [], e := [] } })]) (by kernel_rfl) (allc (C_offer_Find p1 p2 p3 y12 hy12) all0) (norm ?_)
    refine At.seqJ (S := Bool) (fun s => ⟨[(8, bo s)], []⟩) (fun s => F_retracelaw25_OfferFinds_J1 s = some r) ?_ ?_
    · obtain ⟨y18, hy18, h⟩ := bind_some h
      obtain ⟨g19, h⟩ := grd_some h
      rcases tf (([y12.1, y12.2] : List Int) == y18) with b20 | b20
      · replace h := cond_t b20 h
        obtain ⟨y21, hy21, h⟩ := bind_some h
        refine At.region_end [8] [] _ (st' := ⟨[(8, bo y21)], []⟩) (tips := [(6, { pc := some { ρ := [], n0 := 0, res := .dagg (encL (eInt .i64) y18), σ' := [], e := [] } }), (7, { orc := .val (.bool (([y12.1, y12.2] : List Int) == y18)) }), (8, { orc := .val (.bool true) }), (9, { pc := some { ρ := [], n0 := 0, res := bo y21, σ' := [], e := [] } })]) (by kernel_rfl) (allc (C_retraceref25_Find p1 p2 p3 y18 hy18) (allc (eqTwo_ok .i64 g19) (allc (twoOK .i64 g19) (allc (congrArg D.bool b20) (allc (C_retracelaw25_live y21 hy21) all0))))) (fun a w hs => ⟨y21, h, hs⟩)
      · replace h := cond_f b20 h
        refine At.region_end [8] [] _ (st' := ⟨[(8, bo false)], []⟩) (tips := [(6, { pc := some { ρ := [], n0 := 0, res := .dagg (encL (eInt .i64) y18), σ' := [], e := [] } }), (7, { orc := .val (.bool (([y12.1, y12.2] : List Int) == y18)) }), (8, { orc := .val (.bool false) })]) (by kernel_rfl) (allc (C_retraceref25_Find p1 p2 p3 y18 hy18) (allc (eqTwo_ok .i64 g19) (allc (twoOK .i64 g19) (allc (congrArg D.bool b20) all0)))) (fun a w hs => ⟨false, h, hs⟩)
    · intro x17 h
      replace h : F_retracelaw25_OfferFinds_J1 x17 = some r := h
      rw [F_retracelaw25_OfferFinds_J1] at h
      obtain rfl := some_eq h
      exact At.ret fun a w hs => ret_ok hR (ρ := []) (gs := []) (by kernel_rfl) all0 (by kernel_rfl) rfl rfl a w hs _ (.inl rfl)
set_option maxRecDepth 100000 in
theorem C_retracelaw25_small_v2 (p0 : T_api_Code) (o0 : (List T_api_Proc)) (r : Bool) (h : F_retracelaw25_small_v2 p0 o0 = some r) : FnOK Try.prog 11 [.agg (T_api_Code.pvs p0), .row 0 (o0).length] [.row 38 11 (encL T_api_Proc.enc o0)] (bo r) [.row 38 11 (encL T_api_Proc.enc o0)] [0] := by
  rw [F_retracelaw25_small_v2] at h
  refine FnOK.intro Try.func11 rfl (by kernel_rfl) (by kernel_rfl) fun E gv R hR => ?_
  refine At.seq ?_
  refine At.region_end [1, 2] [0, 1, 2] _ (st' := ⟨[(1, .row 0 (o0).length), (2, .ptr 2 0)], [.row 38 11 (encL T_api_Proc.enc o0), .ghost (gv 0) (.row 0 0), .blk 26 (T_api_Code.pvs p0)]⟩) (tips := []) (by kernel_rfl) all0 (norm ?_)
  refine At.seq ?_
  refine At.seqJ (S := Bool) (fun s => ⟨[(1, .row 0 (o0).length), (2, .ptr 2 0), (31, bo s)], [.row 38 11 (encL T_api_Proc.enc o0), .ghost (gv 0) (.row 0 0), .blk 26 (T_api_Code.pvs p0)]⟩) (fun s => F_retracelaw25_small_v2_J1 p0 o0 s = some r) ?_ ?_
  · rcases tf (decide (150 < ((p0.Ins).length : Int))) with b94 | b94
    · replace h := cond_t b94 h
      refine At.region_end [1, 2, 31] [0, 1, 2] _ (st' := ⟨[(1, .row 0 (o0).length), (2, .ptr 2 0), (31, bo true)], [.row 38 11 (encL T_api_Proc.enc o0), .ghost (gv 0) (.row 0 0), .blk 26 (T_api_Code.pvs p0)]⟩) (tips := [(4, { orc := .val (.bool true) })]) (by kernel_rfl) (allc (congrArg D.bool b94) all0) (fun a w hs => ⟨true, h, hs⟩)
    · replace h := cond_f b94 h
      rcases tf (decide (40 < ((p0.Defs).length : Int))) with b95 | b95
      · replace h := cond_t b95 h
        refine At.region_end [1, 2, 31] [0, 1, 2] _ (st' := ⟨[(1, .row 0 (o0).length), (2, .ptr 2 0), (31, bo true)], [.row 38 11 (encL T_api_Proc.enc o0), .ghost (gv 0) (.row 0 0), .blk 26 (T_api_Code.pvs p0)]⟩) (tips := [(4, { orc := .val (.bool false) }), (10, { orc := .val (.bool true) })]) (by kernel_rfl) (allc (congrArg D.bool b94) (allc (congrArg D.bool b95) all0)) (fun a w hs => ⟨true, h, hs⟩)
      · replace h := cond_f b95 h
        rcases tf (decide (80 < ((p0.Chans).length : Int))) with b96 | b96
        · replace h := cond_t b96 h
          refine At.region_end [1, 2, 31] [0, 1, 2] _ (st' := ⟨[(1, .row 0 (o0).length), (2, .ptr 2 0), (31, bo true)], [.row 38 11 (encL T_api_Proc.enc o0), .ghost (gv 0) (.row 0 0), .blk 26 (T_api_Code.pvs p0)]⟩) (tips := [(4, { orc := .val (.bool false) }), (10, { orc := .val (.bool false) }), (16, { orc := .val (.bool true) })]) (by kernel_rfl) (allc (congrArg D.bool b94) (allc (congrArg D.bool b95) (allc (congrArg D.bool b96) all0))) (fun a w hs => ⟨true, h, hs⟩)
        · replace h := cond_f b96 h
          rcases tf (decide (20 < ((o0).length : Int))) with b97 | b97
          · replace h := cond_t b97 h
            refine At.region_end [1, 2, 31] [0, 1, 2] _ (st' := ⟨[(1, .row 0 (o0).length), (2, .ptr 2 0), (31, bo true)], [.row 38 11 (encL T_api_Proc.enc o0), .ghost (gv 0) (.row 0 0), .blk 26 (T_api_Code.pvs p0)]⟩) (tips := [(4, { orc := .val (.bool false) }), (10, { orc := .val (.bool false) }), (16, { orc := .val (.bool false) }), (21, { orc := .val (.bool true) })]) (by kernel_rfl) (allc (congrArg D.bool b94) (allc (congrArg D.bool b95) (allc (congrArg D.bool b96) (allc (congrArg D.bool b97) all0)))) (fun a w hs => ⟨true, h, hs⟩)
          · replace h := cond_f b97 h
            obtain ⟨y98, hy98, h⟩ := bind_some h
            refine At.region_end [1, 2, 31] [0, 1, 2] _ (st' := ⟨[(1, .row 0 (o0).length), (2, .ptr 2 0), (31, bo (!y98))], [.row 38 11 (encL T_api_Proc.enc o0), .ghost (gv 0) (.row 0 0), .blk 26 (T_api_Code.pvs p0)]⟩) (tips := [(4, { orc := .val (.bool false) }), (10, { orc := .val (.bool false) }), (16, { orc := .val (.bool false) }), (21, { orc := .val (.bool false) }), (23, { pc := some { ρ := [], n0 := 0, res := bo y98, σ' := [], e := [] } })]) (by kernel_rfl) (allc (congrArg D.bool b94) (allc (congrArg D.bool b95) (allc (congrArg D.bool b96) (allc (congrArg D.bool b97) (allc (C_retraceref20_Right p0 y98 hy98) all0))))) (fun a w hs => ⟨(!y98), h, hs⟩)
  · intro x18 h
    replace h : F_retracelaw25_small_v2_J1 p0 o0 x18 = some r := h
    rw [F_retracelaw25_small_v2_J1] at h
    refine At.cond x18 (by kernel_rfl) (fun b19 => ?_) (fun b19 => ?_)
    · replace h := cond_t b19 h
      refine At.seq ?_
      refine At.region_end [4] [0, 1] _ (st' := ⟨[(4, bo false)], [.row 38 11 (encL T_api_Proc.enc o0), .ghost (gv 0) (.row 0 0)]⟩) (tips := []) (by kernel_rfl) all0 (norm ?_)
      obtain rfl := some_eq h
      exact At.ret fun a w hs => ret_ok hR (ρ := [0]) (gs := [.ghost (gv 0) (.row 0 0)]) (by kernel_rfl) all0 (by kernel_rfl) rfl rfl a w hs _ (.inl rfl)
    · replace h := cond_f b19 h
      refine At.nar [1, 2] [0, 1, 2] (st' := ⟨[(1, .row 0 (o0).length), (2, .ptr 2 0)], [.row 38 11 (encL T_api_Proc.enc o0), .ghost (gv 0) (.row 0 0), .blk 26 (T_api_Code.pvs p0)]⟩) (by kernel_rfl) ?_
      refine At.skip (norm ?_)
      refine At.seq ?_
      refine At.seq ?_
      refine At.region_end [1, 2, 5] [0, 1, 2] _ (st' := ⟨[(1, .row 0 (o0).length), (2, .ptr 2 0), (5, i64 0)], [.row 38 11 (encL T_api_Proc.enc o0), .ghost (gv 0) (.row 0 0), .blk 26 (T_api_Code.pvs p0)]⟩) (tips := []) (by kernel_rfl) all0 (norm ?_)
      refine At.block ?_
      refine At.loop (fun s : (Int) => F_retracelaw25_small_v2_L3 p0 o0 s) (fun s : (Int) => ⟨[(1, .row 0 (o0).length), (2, .ptr 2 0), (5, i64 s)], [.row 38 11 (encL T_api_Proc.enc o0), .ghost (gv 0) (.row 0 0), .blk 26 (T_api_Code.pvs p0)]⟩) r 0 h ?_
      intro x57 oo58 h f59
      replace h : F_retracelaw25_small_v2_L3 p0 o0 x57 = some oo58 := h
      rw [F_retracelaw25_small_v2_L3] at h
      refine At.seq ?_
      refine At.seq ?_
      refine At.region_end [1, 2, 5, 35] [0, 1, 2] _ (st' := ⟨[(1, .row 0 (o0).length), (2, .ptr 2 0), (5, i64 x57), (35, bo (decide (x57 < ((o0).length : Int))))], [.row 38 11 (encL T_api_Proc.enc o0), .ghost (gv 0) (.row 0 0), .blk 26 (T_api_Code.pvs p0)]⟩) (tips := []) (by kernel_rfl) all0 (norm ?_)
      refine At.cond (decide (x57 < ((o0).length : Int))) (by kernel_rfl) (fun b61 => ?_) (fun b61 => ?_)
      · replace h := cond_t b61 h
        refine At.nar [1, 2, 5] [0, 1, 2] (st' := ⟨[(1, .row 0 (o0).length), (2, .ptr 2 0), (5, i64 x57)], [.row 38 11 (encL T_api_Proc.enc o0), .ghost (gv 0) (.row 0 0), .blk 26 (T_api_Code.pvs p0)]⟩) (by kernel_rfl) ?_
        refine At.skip (norm ?_)
        refine At.seq ?_
        refine At.block ?_
        refine At.seqJ (S := Bool) (fun s => ⟨[(1, .row 0 (o0).length), (2, .ptr 2 0), (5, i64 x57), (62, bo s)], [.row 38 11 (encL T_api_Proc.enc o0), .ghost (gv 0) (.row 0 0), .blk 26 (T_api_Code.pvs p0)]⟩) (fun s => F_retracelaw25_small_v2_J2 x57 s = some oo58) ?_ ?_
        · obtain ⟨y86, hy86, h⟩ := bind_some h
          rcases tf (decide (40 < ((y86.Alts).length : Int))) with b87 | b87
          · replace h := cond_t b87 h
            refine At.draw_end mixedOrd 0 [1, 2, 5, 62] [0, 1, 2] _ (st' := ⟨[(1, .row 0 (o0).length), (2, .ptr 2 0), (5, i64 x57), (62, bo true)], [.row 38 11 (encL T_api_Proc.enc o0), .ghost (gv 0) (.row 0 0), .blk 26 (T_api_Code.pvs p0)]⟩) (tips := [(0, { r := 3 }), (2, { r := 3 }), (3, { r := 3 }), (4, { tip := { orc := .val (.list false (y86.Alts).length (encL T_api_Alt.enc y86.Alts)) }, T := [0], r := 3 }), (5, { r := 3 }), (7, { tip := { orc := .val (.bool true) } }), (8, { r := 3 }), (13, { r := 3 }), (17, { T := [2], r := 3 }), (18, { r := 3 }), (22, { r := 3 })]) (by kernel_rfl) (allc (rEl hy86) (allc (rElV T_api_Proc.enc_len hy86 10 (by decide) (d := .list false (y86.Alts).length (encL T_api_Alt.enc y86.Alts)) (by rfl)) (allc (congrArg D.bool b87) all0))) (fun a w hs => ⟨true, h, hs⟩)
          · replace h := cond_f b87 h
            obtain ⟨y88, hy88, h⟩ := bind_some h
            rcases tf (decide (40 < ((y88.Vars).length : Int))) with b89 | b89
            · replace h := cond_t b89 h
              refine At.draw_end mixedOrd 0 [1, 2, 5, 62] [0, 1, 2] _ (st' := ⟨[(1, .row 0 (o0).length), (2, .ptr 2 0), (5, i64 x57), (62, bo true)], [.row 38 11 (encL T_api_Proc.enc o0), .ghost (gv 0) (.row 0 0), .blk 26 (T_api_Code.pvs p0)]⟩) (tips := [(0, { r := 3 }), (2, { r := 3 }), (3, { r := 3 }), (4, { tip := { orc := .val (.list false (y86.Alts).length (encL T_api_Alt.enc y86.Alts)) }, T := [0], r := 3 }), (5, { r := 3 }), (7, { tip := { orc := .val (.bool false) } }), (8, { r := 3 }), (10, { r := 3 }), (11, { r := 3 }), (12, { tip := { orc := .val (.list false (y88.Vars).length (encL (eInt .i64) y88.Vars)) }, T := [0], r := 3 }), (13, { r := 3 }), (16, { tip := { orc := .val (.bool true) } }), (17, { T := [2], r := 3 }), (18, { r := 3 }), (22, { r := 3 })]) (by kernel_rfl) (allc (rEl hy86) (allc (rElV T_api_Proc.enc_len hy86 10 (by decide) (d := .list false (y86.Alts).length (encL T_api_Alt.enc y86.Alts)) (by rfl)) (allc (congrArg D.bool b87) (allc (rEl hy88) (allc (rElV T_api_Proc.enc_len hy88 2 (by decide) (d := .list false (y88.Vars).length (encL (eInt .i64) y88.Vars)) (by rfl)) (allc (congrArg D.bool b89) all0)))))) (fun a w hs => ⟨true, h, hs⟩)
            · replace h := cond_f b89 h
              obtain ⟨y90, hy90, h⟩ := bind_some h
              obtain ⟨y91, hy91, h⟩ := bind_some h
              refine At.draw_end mixedOrd 0 [1, 2, 5, 62] [0, 1, 2] _ (st' := ⟨[(1, .row 0 (o0).length), (2, .ptr 2 0), (5, i64 x57), (62, bo (!y91))], [.row 38 11 (encL T_api_Proc.enc o0), .ghost (gv 0) (.row 0 0), .blk 26 (T_api_Code.pvs p0)]⟩) (tips := [(0, { r := 3 }), (2, { r := 3 }), (3, { r := 3 }), (4, { tip := { orc := .val (.list false (y86.Alts).length (encL T_api_Alt.enc y86.Alts)) }, T := [0], r := 3 }), (5, { r := 3 }), (7, { tip := { orc := .val (.bool false) } }), (8, { r := 3 }), (10, { r := 3 }), (11, { r := 3 }), (12, { tip := { orc := .val (.list false (y88.Vars).length (encL (eInt .i64) y88.Vars)) }, T := [0], r := 3 }), (13, { r := 3 }), (16, { tip := { orc := .val (.bool false) } }), (17, { T := [2], r := 3 }), (18, { r := 3 }), (20, { r := 3 }), (21, { tip := { orc := .cells [.int .i64 y90.Def, .int .i64 y90.At, .list false (y90.Vars).length (encL (eInt .i64) y90.Vars), .int .i64 y90.Fuel, .int .i64 y90.Mode, .int .i64 y90.Chan, .int .i64 y90.Val, .int .i64 y90.Slot, .int .i64 y90.Until, .int .i64 y90.Since, .list false (y90.Alts).length (encL T_api_Alt.enc y90.Alts)] }, T := [0], r := 3 }), (22, { tip := { pc := some { ρ := [], n0 := 0, res := bo y91, σ' := [], e := [] } }, r := 3 })]) (by kernel_rfl) (allc (rEl hy86) (allc (rElV T_api_Proc.enc_len hy86 10 (by decide) (d := .list false (y86.Alts).length (encL T_api_Alt.enc y86.Alts)) (by rfl)) (allc (congrArg D.bool b87) (allc (rEl hy88) (allc (rElV T_api_Proc.enc_len hy88 2 (by decide) (d := .list false (y88.Vars).length (encL (eInt .i64) y88.Vars)) (by rfl)) (allc (congrArg D.bool b89) (allc (rEl hy90) (allc (rElC T_api_Proc.enc_len hy90 0 11 (by decide) (by rfl)) (allc (C_retraceref22_Is p0 y90 y91 hy91) all0))))))))) (fun a w hs => ⟨(!y91), h, hs⟩)
        · intro x82 h
          replace h : F_retracelaw25_small_v2_J2 x57 x82 = some oo58 := h
          rw [F_retracelaw25_small_v2_J2] at h
          refine At.cond x82 (by kernel_rfl) (fun b83 => ?_) (fun b83 => ?_)
          · replace h := cond_t b83 h
            refine At.seq ?_
            refine At.region_end [4] [0, 1] _ (st' := ⟨[(4, bo false)], [.row 38 11 (encL T_api_Proc.enc o0), .ghost (gv 0) (.row 0 0)]⟩) (tips := []) (by kernel_rfl) all0 (norm ?_)
            obtain ⟨r84, h, e85⟩ := map_inr h
            rw [f59 _ e85] at h
            obtain rfl := some_eq h
            exact At.ret fun a w hs => ret_ok hR (ρ := [0]) (gs := [.ghost (gv 0) (.row 0 0)]) (by kernel_rfl) all0 (by kernel_rfl) rfl rfl a w hs _ (.inl rfl)
          · replace h := cond_f b83 h
            refine At.nar [1, 2, 5] [0, 1, 2] (st' := ⟨[(1, .row 0 (o0).length), (2, .ptr 2 0), (5, i64 x57)], [.row 38 11 (encL T_api_Proc.enc o0), .ghost (gv 0) (.row 0 0), .blk 26 (T_api_Code.pvs p0)]⟩) (by kernel_rfl) ?_
            refine At.skip (norm ?_)
            refine At.region_end [1, 2, 5] [0, 1, 2] _ (st' := ⟨[(1, .row 0 (o0).length), (2, .ptr 2 0), (5, i64 (w64 (x57 + 1)))], [.row 38 11 (encL T_api_Proc.enc o0), .ghost (gv 0) (.row 0 0), .blk 26 (T_api_Code.pvs p0)]⟩) (tips := []) (by kernel_rfl) all0 (fun a w hs => ⟨_, (some_eq h).symm, hs⟩)
      · replace h := cond_f b61 h
        refine At.nar [] [0, 1] (st' := ⟨[], [.row 38 11 (encL T_api_Proc.enc o0), .ghost (gv 0) (.row 0 0)]⟩) (by kernel_rfl) ?_
        obtain ⟨r92, h, e93⟩ := map_inr h
        rw [f59 _ e93] at h
        refine At.exit (norm ?_)
        refine At.seq ?_
        refine At.region_end [4] [0, 1] _ (st' := ⟨[(4, bo true)], [.row 38 11 (encL T_api_Proc.enc o0), .ghost (gv 0) (.row 0 0)]⟩) (tips := []) (by kernel_rfl) all0 (norm ?_)
        obtain rfl := some_eq h
        exact At.ret fun a w hs => ret_ok hR (ρ := [0]) (gs := [.ghost (gv 0) (.row 0 0)]) (by kernel_rfl) all0 (by kernel_rfl) rfl rfl a w hs _ (.inl rfl)
set_option maxRecDepth 100000 in
theorem C_offer_Value_v2 (p0 : T_api_Proc) (p1 : Int) (r : Int) (h : F_offer_Value_v2 p0 p1 = some r) : FnOK Try.prog 17 [.agg (T_api_Proc.pvs p0), i64 p1] [] (i64 r) [] [] := by
  rw [F_offer_Value_v2] at h
  refine FnOK.intro Try.func17 rfl (by kernel_rfl) (by kernel_rfl) fun E gv R hR => ?_
  refine At.seq ?_
  refine At.region_end [1, 2] [0] _ (st' := ⟨[(1, i64 p1), (2, .ptr 0 0)], [.blk 38 (T_api_Proc.pvs p0)]⟩) (tips := []) (by kernel_rfl) all0 (norm ?_)
  refine At.seq ?_
  refine At.seqJ (S := Bool) (fun s => ⟨[(1, i64 p1), (2, .ptr 0 0), (13, bo s)], [.blk 38 (T_api_Proc.pvs p0)]⟩) (fun s => F_offer_Value_v2_J1 p0 p1 s = some r) ?_ ?_
  · rcases tf (p0.Mode == 1) with b20 | b20
    · replace h := cond_t b20 h
      refine At.region_end [1, 2, 13] [0] _ (st' := ⟨[(1, i64 p1), (2, .ptr 0 0), (13, bo (p1 == (-1)))], [.blk 38 (T_api_Proc.pvs p0)]⟩) (tips := [(3, { orc := .val (.bool true) })]) (by kernel_rfl) (allc (congrArg D.bool b20) all0) (fun a w hs => ⟨(p1 == (-1)), h, hs⟩)
    · replace h := cond_f b20 h
      refine At.region_end [1, 2, 13] [0] _ (st' := ⟨[(1, i64 p1), (2, .ptr 0 0), (13, bo false)], [.blk 38 (T_api_Proc.pvs p0)]⟩) (tips := [(3, { orc := .val (.bool false) })]) (by kernel_rfl) (allc (congrArg D.bool b20) all0) (fun a w hs => ⟨false, h, hs⟩)
  · intro x6 h
    replace h : F_offer_Value_v2_J1 p0 p1 x6 = some r := h
    rw [F_offer_Value_v2_J1] at h
    refine At.cond x6 (by kernel_rfl) (fun b7 => ?_) (fun b7 => ?_)
    · replace h := cond_t b7 h
      refine At.seq ?_
      refine At.region_end [4] [] _ (st' := ⟨[(4, i64 p0.Val)], []⟩) (tips := []) (by kernel_rfl) all0 (norm ?_)
      obtain rfl := some_eq h
      exact At.ret fun a w hs => ret_ok hR (ρ := []) (gs := []) (by kernel_rfl) all0 (by kernel_rfl) rfl rfl a w hs _ (.inl rfl)
    · replace h := cond_f b7 h
      refine At.nar [1, 2] [0] (st' := ⟨[(1, i64 p1), (2, .ptr 0 0)], [.blk 38 (T_api_Proc.pvs p0)]⟩) (by kernel_rfl) ?_
      refine At.skip (norm ?_)
      refine At.seq ?_
      refine At.seq ?_
      obtain ⟨y15, hy15, h⟩ := bind_some h
      refine At.region_end [5, 6] [1] _ (st' := ⟨[(5, .ptr 0 0), (6, bo y15.2)], [.blk 51 (T_api_Alt.pvs y15.1)]⟩) (tips := [(2, { pc := some { ρ := [], n0 := 0, res := .tup [.agg (T_api_Alt.pvs y15.1), bo y15.2], σ' := [], e := [] } })]) (by kernel_rfl) (allc (C_offer_alt p0 p1 y15 hy15) all0) (norm ?_)
      refine At.seqJ (S := Bool) (fun s => ⟨[(5, .ptr 0 0), (27, bo s)], [.blk 51 (T_api_Alt.pvs y15.1)]⟩) (fun s => F_offer_Value_v2_J2 y15 s = some r) ?_ ?_
      · rcases tf y15.2 with b19 | b19
        · replace h := cond_t b19 h
          refine At.region_end [5, 27] [0] _ (st' := ⟨[(5, .ptr 0 0), (27, bo (y15.1.Kind == 2))], [.blk 51 (T_api_Alt.pvs y15.1)]⟩) (tips := [(1, { orc := .val (.bool true) })]) (by kernel_rfl) (allc (congrArg D.bool b19) all0) (fun a w hs => ⟨(y15.1.Kind == 2), h, hs⟩)
        · replace h := cond_f b19 h
          refine At.region_end [5, 27] [0] _ (st' := ⟨[(5, .ptr 0 0), (27, bo false)], [.blk 51 (T_api_Alt.pvs y15.1)]⟩) (tips := [(1, { orc := .val (.bool false) })]) (by kernel_rfl) (allc (congrArg D.bool b19) all0) (fun a w hs => ⟨false, h, hs⟩)
      · intro x17 h
        replace h : F_offer_Value_v2_J2 y15 x17 = some r := h
        rw [F_offer_Value_v2_J2] at h
        refine At.cond x17 (by kernel_rfl) (fun b18 => ?_) (fun b18 => ?_)
        · replace h := cond_t b18 h
          refine At.seq ?_
          refine At.region_end [4] [] _ (st' := ⟨[(4, i64 y15.1.Val)], []⟩) (tips := []) (by kernel_rfl) all0 (norm ?_)
          obtain rfl := some_eq h
          exact At.ret fun a w hs => ret_ok hR (ρ := []) (gs := []) (by kernel_rfl) all0 (by kernel_rfl) rfl rfl a w hs _ (.inl rfl)
        · replace h := cond_f b18 h
          refine At.nar [] [] (st' := ⟨[], []⟩) (by kernel_rfl) ?_
          refine At.skip (norm ?_)
          refine At.seq ?_
          refine At.region_end [4] [] _ (st' := ⟨[(4, i64 0)], []⟩) (tips := []) (by kernel_rfl) all0 (norm ?_)
          obtain rfl := some_eq h
          exact At.ret fun a w hs => ret_ok hR (ρ := []) (gs := []) (by kernel_rfl) all0 (by kernel_rfl) rfl rfl a w hs _ (.inl rfl)
set_option maxRecDepth 100000 in
theorem C_retraceref25_Value (p0 : T_api_Proc) (p1 : Int) (r : Int) (h : F_retraceref25_Value p0 p1 = some r) : FnOK Try.prog 18 [.agg (T_api_Proc.pvs p0), i64 p1] [] (i64 r) [] [] := by
  rw [F_retraceref25_Value] at h
  refine FnOK.intro Try.func18 rfl (by kernel_rfl) (by kernel_rfl) fun E gv R hR => ?_
  refine At.seq ?_
  refine At.region_end [1, 2] [0] _ (st' := ⟨[(1, i64 p1), (2, .ptr 0 0)], [.blk 38 (T_api_Proc.pvs p0)]⟩) (tips := []) (by kernel_rfl) all0 (norm ?_)
  refine At.seq ?_
  refine At.seqJ (S := Bool) (fun s => ⟨[(1, i64 p1), (2, .ptr 0 0), (11, bo s)], [.blk 38 (T_api_Proc.pvs p0)]⟩) (fun s => F_retraceref25_Value_J1 p0 p1 s = some r) ?_ ?_
  · rcases tf (p0.Mode == 1) with b32 | b32
    · replace h := cond_t b32 h
      refine At.region_end [1, 2, 11] [0] _ (st' := ⟨[(1, i64 p1), (2, .ptr 0 0), (11, bo (p1 == (-1)))], [.blk 38 (T_api_Proc.pvs p0)]⟩) (tips := [(3, { orc := .val (.bool true) })]) (by kernel_rfl) (allc (congrArg D.bool b32) all0) (fun a w hs => ⟨(p1 == (-1)), h, hs⟩)
    · replace h := cond_f b32 h
      refine At.region_end [1, 2, 11] [0] _ (st' := ⟨[(1, i64 p1), (2, .ptr 0 0), (11, bo false)], [.blk 38 (T_api_Proc.pvs p0)]⟩) (tips := [(3, { orc := .val (.bool false) })]) (by kernel_rfl) (allc (congrArg D.bool b32) all0) (fun a w hs => ⟨false, h, hs⟩)
  · intro x6 h
    replace h : F_retraceref25_Value_J1 p0 p1 x6 = some r := h
    rw [F_retraceref25_Value_J1] at h
    refine At.cond x6 (by kernel_rfl) (fun b7 => ?_) (fun b7 => ?_)
    · replace h := cond_t b7 h
      refine At.seq ?_
      refine At.region_end [4] [] _ (st' := ⟨[(4, i64 p0.Val)], []⟩) (tips := []) (by kernel_rfl) all0 (norm ?_)
      obtain rfl := some_eq h
      exact At.ret fun a w hs => ret_ok hR (ρ := []) (gs := []) (by kernel_rfl) all0 (by kernel_rfl) rfl rfl a w hs _ (.inl rfl)
    · replace h := cond_f b7 h
      refine At.nar [1, 2] [0] (st' := ⟨[(1, i64 p1), (2, .ptr 0 0)], [.blk 38 (T_api_Proc.pvs p0)]⟩) (by kernel_rfl) ?_
      refine At.skip (norm ?_)
      refine At.seq ?_
      refine At.seqJ (S := Bool) (fun s => ⟨[(1, i64 p1), (2, .ptr 0 0), (36, bo s)], [.blk 38 (T_api_Proc.pvs p0)]⟩) (fun s => F_retraceref25_Value_J2 p0 p1 s = some r) ?_ ?_
      · rcases tf (p0.Mode == 3) with b28 | b28
        · replace h := cond_t b28 h
          rcases tf (decide (0 ≤ p1)) with b29 | b29
          · replace h := cond_t b29 h
            rcases tf (decide (p1 < ((p0.Alts).length : Int))) with b30 | b30
            · replace h := cond_t b30 h
              obtain ⟨y31, hy31, h⟩ := bind_some h
              refine At.region_end [1, 2, 36] [0] _ (st' := ⟨[(1, i64 p1), (2, .ptr 0 0), (36, bo (y31.Kind == 2))], [.blk 38 (T_api_Proc.pvs p0)]⟩) (tips := [(3, { orc := .val (.bool true) }), (7, { orc := .val (.bool true) }), (14, { orc := .val (.bool true) }), (18, { orc := .cells (T_api_Alt.enc y31) })]) (by kernel_rfl) (allc (congrArg D.bool b28) (allc (congrArg D.bool b29) (allc (congrArg D.bool b30) (allc (elemAt_of T_api_Alt.enc_len hy31) all0)))) (fun a w hs => ⟨(y31.Kind == 2), h, hs⟩)
            · replace h := cond_f b30 h
              refine At.region_end [1, 2, 36] [0] _ (st' := ⟨[(1, i64 p1), (2, .ptr 0 0), (36, bo false)], [.blk 38 (T_api_Proc.pvs p0)]⟩) (tips := [(3, { orc := .val (.bool true) }), (7, { orc := .val (.bool true) }), (14, { orc := .val (.bool false) })]) (by kernel_rfl) (allc (congrArg D.bool b28) (allc (congrArg D.bool b29) (allc (congrArg D.bool b30) all0))) (fun a w hs => ⟨false, h, hs⟩)
          · replace h := cond_f b29 h
            refine At.region_end [1, 2, 36] [0] _ (st' := ⟨[(1, i64 p1), (2, .ptr 0 0), (36, bo false)], [.blk 38 (T_api_Proc.pvs p0)]⟩) (tips := [(3, { orc := .val (.bool true) }), (7, { orc := .val (.bool false) })]) (by kernel_rfl) (allc (congrArg D.bool b28) (allc (congrArg D.bool b29) all0)) (fun a w hs => ⟨false, h, hs⟩)
        · replace h := cond_f b28 h
          refine At.region_end [1, 2, 36] [0] _ (st' := ⟨[(1, i64 p1), (2, .ptr 0 0), (36, bo false)], [.blk 38 (T_api_Proc.pvs p0)]⟩) (tips := [(3, { orc := .val (.bool false) })]) (by kernel_rfl) (allc (congrArg D.bool b28) all0) (fun a w hs => ⟨false, h, hs⟩)
      · intro x24 h
        replace h : F_retraceref25_Value_J2 p0 p1 x24 = some r := h
        rw [F_retraceref25_Value_J2] at h
        refine At.cond x24 (by kernel_rfl) (fun b25 => ?_) (fun b25 => ?_)
        · replace h := cond_t b25 h
          refine At.seq ?_
          obtain ⟨y27, hy27, h⟩ := bind_some h
          refine At.region_end [4] [] _ (st' := ⟨[(4, i64 y27.Val)], []⟩) (tips := [(3, { orc := .cells (T_api_Alt.enc y27) })]) (by kernel_rfl) (allc (elemAt_of T_api_Alt.enc_len hy27) all0) (norm ?_)
          obtain rfl := some_eq h
          exact At.ret fun a w hs => ret_ok hR (ρ := []) (gs := []) (by kernel_rfl) all0 (by kernel_rfl) rfl rfl a w hs _ (.inl rfl)
        · replace h := cond_f b25 h
          refine At.nar [] [] (st' := ⟨[], []⟩) (by kernel_rfl) ?_
          refine At.skip (norm ?_)
          refine At.seq ?_
          refine At.region_end [4] [] _ (st' := ⟨[(4, i64 0)], []⟩) (tips := []) (by kernel_rfl) all0 (norm ?_)
          obtain rfl := some_eq h
          exact At.ret fun a w hs => ret_ok hR (ρ := []) (gs := []) (by kernel_rfl) all0 (by kernel_rfl) rfl rfl a w hs _ (.inl rfl)
set_option maxRecDepth 100000 in
theorem C_retracelaw25_OfferTells (p0 : T_api_Code) (p1 : T_api_Proc) (p2 : Int) (p3 : Int) (p4 : Int) (r : Bool) (h : F_retracelaw25_OfferTells p0 p1 p2 p3 p4 = some r) : FnOK Try.prog 4 [.agg (T_api_Code.pvs p0), .agg (T_api_Proc.pvs p1), i64 p2, i64 p3, i64 p4] [] (bo r) [] [] := by
  rw [F_retracelaw25_OfferTells] at h
  refine FnOK.intro Try.func4 rfl (by kernel_rfl) (by kernel_rfl) fun E gv R hR => ?_
  refine At.seq ?_
  refine At.region_end [2, 3, 4, 5, 6] [0, 1] _ (st' := ⟨[(2, i64 p2), (3, i64 p3), (4, i64 p4), (5, .ptr 0 0), (6, .ptr 1 0)], [.blk 26 (T_api_Code.pvs p0), .blk 38 (T_api_Proc.pvs p1)]⟩) (tips := []) (by kernel_rfl) all0 (norm ?_)
  refine At.seq ?_
  refine At.seq ?_
  obtain ⟨y7, hy7, h⟩ := bind_some h
  refine At.region_end [2, 3, 4, 6, 18] [1] _ (st' := ⟨[(2, i64 p2), (3, i64 p3), (4, i64 p4), (6, .ptr 0 0), (18, bo (!y7))], [.blk 38 (T_api_Proc.pvs p1)]⟩) (tips := [(3, { pc := some { ρ := [2], n0 := 1, res := bo y7, σ' := [.row 38 11 (encL T_api_Proc.enc ([p1]))], e := [0] } })]) (by kernel_rfl) (allc (C_retracelaw25_small_v2 p0 ([p1]) y7 hy7) all0) (norm ?_)
  refine At.cond (!y7) (by kernel_rfl) (fun b8 => ?_) (fun b8 => ?_)
  · replace h := cond_t b8 h
    refine At.seq ?_
    obtain ⟨y10, hy10, h⟩ := bind_some h
    refine At.region_end [10] [] _ (st' := ⟨[(10, bo y10)], []⟩) (tips := [(0, { pc := some { ρ := [], n0 := 0, res := bo y10, σ' := [], e := [] } })]) (by kernel_rfl) (allc (C_retracelaw25_live y10 hy10) all0) (norm ?_)
    obtain rfl := some_eq h
    exact At.ret fun a w hs => ret_ok hR (ρ := []) (gs := []) (by kernel_rfl) all0 (by kernel_rfl) rfl rfl a w hs _ (.inl rfl)
  · replace h := cond_f b8 h
    refine At.nar [2, 3, 4, 6] [0] (st' := ⟨[(2, i64 p2), (3, i64 p3), (4, i64 p4), (6, .ptr 0 0)], [.blk 38 (T_api_Proc.pvs p1)]⟩) (by kernel_rfl) ?_
    refine At.skip (norm ?_)
    refine At.seq ?_
    obtain ⟨y12, hy12, h⟩ := bind_some h
    refine At.region_end [2, 3, 4, 6, 11, 12] [0] _ (st' := ⟨[(2, i64 p2), (3, i64 p3), (4, i64 p4), (6, .ptr 0 0), (11, i64 y12.1), (12, bo y12.2)], [.blk 38 (T_api_Proc.pvs p1)]⟩) (tips := [(3, { pc := some { ρ := [], n0 := 0, res := .tup [i64 y12.1, bo y12.2], σ' := [], e := [] } })]) (by kernel_rfl) (allc (C_offer_Of p1 p2 p3 y12 hy12) all0) (norm ?_)
    refine At.seq ?_
    obtain ⟨y14, hy14, h⟩ := bind_some h
    refine At.region_end [4, 6, 11, 12, 13] [0, 1] _ (st' := ⟨[(4, i64 p4), (6, .ptr 0 0), (11, i64 y12.1), (12, bo y12.2), (13, .ptr 1 0)], [.blk 38 (T_api_Proc.pvs p1), .blk 42 (T_retraceref25_Offer.pvs y14)]⟩) (tips := [(3, { pc := some { ρ := [], n0 := 0, res := .agg (T_retraceref25_Offer.pvs y14), σ' := [], e := [] } })]) (by kernel_rfl) (allc (C_retraceref25_Of p1 p2 p3 y14 hy14) all0) (norm ?_)
    refine At.seqJ (S := Bool) (fun s => ⟨[(10, bo s)], []⟩) (fun s => F_retracelaw25_OfferTells_J1 s = some r) ?_ ?_
    · rcases tf (y12.1 == y14.Place) with b22 | b22
      · replace h := cond_t b22 h
        rcases tf (y12.2 == y14.Ok) with b23 | b23
        · replace h := cond_t b23 h
          obtain ⟨y24, hy24, h⟩ := bind_some h
          obtain ⟨y25, hy25, h⟩ := bind_some h
          rcases tf (y24 == y25) with b26 | b26
          · replace h := cond_t b26 h
            obtain ⟨y27, hy27, h⟩ := bind_some h
            refine At.draw_end mixedOrd 0 [10] [] _ (st' := ⟨[(10, bo y27)], []⟩) (tips := [(1, { r := 2 }), (2, { T := [1], r := 2 }), (4, { tip := { orc := .val (.bool true) } }), (6, { r := 2 }), (7, { T := [1], r := 2 }), (10, { tip := { orc := .val (.bool true) } }), (11, { T := [0], r := 2 }), (13, { tip := { pc := some { ρ := [], n0 := 0, res := i64 y24, σ' := [], e := [] } }, r := 2 }), (14, { T := [0], r := 2 }), (16, { tip := { pc := some { ρ := [], n0 := 0, res := i64 y25, σ' := [], e := [] } }, r := 2 }), (19, { tip := { orc := .val (.bool true) } }), (20, { tip := { pc := some { ρ := [], n0 := 0, res := bo y27, σ' := [], e := [] } }, r := 2 })]) (by kernel_rfl) (allc (congrArg D.bool b22) (allc (congrArg D.bool b23) (allc (C_offer_Value_v2 p1 p4 y24 hy24) (allc (C_retraceref25_Value p1 p4 y25 hy25) (allc (congrArg D.bool b26) (allc (C_retracelaw25_live y27 hy27) all0)))))) (fun a w hs => ⟨y27, h, hs⟩)
          · replace h := cond_f b26 h
            refine At.draw_end mixedOrd 0 [10] [] _ (st' := ⟨[(10, bo false)], []⟩) (tips := [(1, { r := 2 }), (2, { T := [1], r := 2 }), (4, { tip := { orc := .val (.bool true) } }), (6, { r := 2 }), (7, { T := [1], r := 2 }), (10, { tip := { orc := .val (.bool true) } }), (11, { T := [0], r := 2 }), (13, { tip := { pc := some { ρ := [], n0 := 0, res := i64 y24, σ' := [], e := [] } }, r := 2 }), (14, { T := [0], r := 2 }), (16, { tip := { pc := some { ρ := [], n0 := 0, res := i64 y25, σ' := [], e := [] } }, r := 2 }), (19, { tip := { orc := .val (.bool false) } }), (20, { r := 2 })]) (by kernel_rfl) (allc (congrArg D.bool b22) (allc (congrArg D.bool b23) (allc (C_offer_Value_v2 p1 p4 y24 hy24) (allc (C_retraceref25_Value p1 p4 y25 hy25) (allc (congrArg D.bool b26) all0))))) (fun a w hs => ⟨false, h, hs⟩)
        · replace h := cond_f b23 h
          refine At.draw_end mixedOrd 0 [10] [] _ (st' := ⟨[(10, bo false)], []⟩) (tips := [(1, { r := 2 }), (2, { T := [1], r := 2 }), (4, { tip := { orc := .val (.bool true) } }), (6, { r := 2 }), (7, { T := [1], r := 2 }), (10, { tip := { orc := .val (.bool false) } }), (11, { T := [0], r := 2 }), (13, { r := 2 }), (14, { T := [0], r := 2 }), (16, { r := 2 }), (20, { r := 2 })]) (by kernel_rfl) (allc (congrArg D.bool b22) (allc (congrArg D.bool b23) all0)) (fun a w hs => ⟨false, h, hs⟩)
      · replace h := cond_f b22 h
        refine At.draw_end mixedOrd 0 [10] [] _ (st' := ⟨[(10, bo false)], []⟩) (tips := [(1, { r := 2 }), (2, { T := [1], r := 2 }), (4, { tip := { orc := .val (.bool false) } }), (6, { r := 2 }), (11, { T := [0], r := 2 }), (13, { r := 2 }), (14, { T := [0], r := 2 }), (16, { r := 2 }), (20, { r := 2 })]) (by kernel_rfl) (allc (congrArg D.bool b22) all0) (fun a w hs => ⟨false, h, hs⟩)
    · intro x21 h
      replace h : F_retracelaw25_OfferTells_J1 x21 = some r := h
      rw [F_retracelaw25_OfferTells_J1] at h
      obtain rfl := some_eq h
      exact At.ret fun a w hs => ret_ok hR (ρ := []) (gs := []) (by kernel_rfl) all0 (by kernel_rfl) rfl rfl a w hs _ (.inl rfl)
set_option maxRecDepth 100000 in
theorem C_slices_Clone_int_int (p0 : (List Int)) (r : (List Int)) (h : F_slices_Clone_int_int p0 = some r) : FnOK Try.prog 37 [lv (eInt .i64) p0] [] (.row 0 (r).length) [.row 3 1 (encL (eInt .i64) r)] [] := by
  rw [F_slices_Clone_int_int] at h
  refine FnOK.intro Try.func37 rfl (by kernel_rfl) (by kernel_rfl) fun E gv R hR => ?_
  refine At.seq ?_
  refine At.region_end [0] [] _ (st' := ⟨[(0, lv (eInt .i64) p0)], []⟩) (tips := []) (by kernel_rfl) all0 (norm ?_)
  refine At.seq ?_
  refine At.seq ?_
  refine At.nilEq (t0 := 0) (t3 := 3) (t4 := 4) (e := 3) (tt := false) (k := (p0).length) (xs := encL (eInt .i64) p0) rfl rfl rfl rfl rfl rfl (by decide) (by decide) (by kernel_rfl) (by kernel_rfl) ?_
  rintro (_ | _) hk
  · refine norm ?_
    refine At.nar [0, 4] [] (st' := ⟨[(0, lv (eInt .i64) p0), (4, bo false)], []⟩) (by kernel_rfl) ?_
    refine At.cond false (by kernel_rfl) (fun hb => by cases hb) (fun _ => ?_)
    refine At.nar [0] [] (st' := ⟨[(0, lv (eInt .i64) p0)], []⟩) (by kernel_rfl) ?_
    refine At.skip (norm ?_)
    refine At.seq ?_
    obtain ⟨g2, h⟩ := grd_some h
    refine At.region_end [2] [0] _ (st' := ⟨[(2, .row 0 ((([] : List Int) ++ p0)).length)], [.row 3 1 (encL (eInt .i64) (([] : List Int) ++ p0))]⟩) (tips := [(2, { form := some ((([] : List Int) ++ p0).length, encL (eInt .i64) (([] : List Int) ++ p0)) })]) (by kernel_rfl) (allc (len_app ([] : List Int) p0) (allc (encL_app (eInt .i64) ([] : List Int) p0) (allc (app_ok (he_int .i64) (by decide) g2) (allc (encL_len (he_int .i64) p0) all0)))) (norm ?_)
    obtain rfl := some_eq h
    exact At.ret fun a w hs => ret_ok hR (ρ := [0]) (gs := []) (by kernel_rfl) all0 (by kernel_rfl) rfl rfl a w hs _ (.inl rfl)
  · obtain rfl := List.length_eq_zero_iff.1 (hk rfl)
    obtain ⟨_, h⟩ := grd_some h
    refine norm ?_
    refine At.nar [0, 4] [] (st' := ⟨[(0, lv (eInt .i64) ([] : List Int)), (4, bo true)], []⟩) (by kernel_rfl) ?_
    refine At.cond true (by kernel_rfl) (fun _ => ?_) (fun hb => by cases hb)
    refine At.seq ?_
    refine At.region_end [2] [] _ (st' := ⟨[(2, .d (.list true 0 []))], []⟩) (tips := []) (by kernel_rfl) all0 (norm ?_)
    refine At.edNar [.ownS 2 3 1] [2] [0] (st' := ⟨[(2, .row 0 ([] : List Int).length)], [.row 3 1 (encL (eInt .i64) ([]))]⟩) (by kernel_rfl) ?_
    obtain rfl := some_eq h
    exact At.ret fun a w hs => ret_ok hR (ρ := [0]) (gs := []) (by kernel_rfl) all0 (by kernel_rfl) rfl rfl a w hs _ (.inl rfl)
set_option maxRecDepth 100000 in
theorem C_code_Settle (p0 : T_api_Code) (p1 : Int) (r : Int) (h : F_code_Settle p0 p1 = some r) : FnOK Try.prog 55 [.agg (T_api_Code.pvs p0), i64 p1] [] (i64 r) [] [] := by
  rw [F_code_Settle] at h
  refine FnOK.intro Try.func55 rfl (by kernel_rfl) (by kernel_rfl) fun E gv R hR => ?_
  refine At.seq ?_
  refine At.region_end [1, 2] [0] _ (st' := ⟨[(1, i64 p1), (2, .ptr 0 0)], [.blk 26 (T_api_Code.pvs p0)]⟩) (tips := []) (by kernel_rfl) all0 (norm ?_)
  refine At.seq ?_
  refine At.region_end [1, 2, 5] [0] _ (st' := ⟨[(1, i64 p1), (2, .ptr 0 0), (5, i64 p1)], [.blk 26 (T_api_Code.pvs p0)]⟩) (tips := []) (by kernel_rfl) all0 (norm ?_)
  refine At.seq ?_
  refine At.seq ?_
  refine At.region_end [1, 2, 5, 10, 11] [0] _ (st' := ⟨[(1, i64 p1), (2, .ptr 0 0), (5, i64 p1), (10, i64 (w64 (((p0.Ins).length : Int) + 1))), (11, i64 0)], [.blk 26 (T_api_Code.pvs p0)]⟩) (tips := []) (by kernel_rfl) all0 (norm ?_)
  refine At.block ?_
  refine At.loop (fun s : (Int × Int) => F_code_Settle_L2 p0 p1 s.1 s.2) (fun s : (Int × Int) => ⟨[(1, i64 p1), (2, .ptr 0 0), (5, i64 s.1), (10, i64 (w64 (((p0.Ins).length : Int) + 1))), (11, i64 s.2)], [.blk 26 (T_api_Code.pvs p0)]⟩) r (p1, 0) h ?_
  rintro ⟨x45, x46⟩ oo47 h f48
  replace h : F_code_Settle_L2 p0 p1 x45 x46 = some oo47 := h
  rw [F_code_Settle_L2] at h
  refine At.seq ?_
  refine At.region_end [1, 2, 5, 10, 11, 12] [0] _ (st' := ⟨[(1, i64 p1), (2, .ptr 0 0), (5, i64 x45), (10, i64 (w64 (((p0.Ins).length : Int) + 1))), (11, i64 x46), (12, bo (decide (x46 < (w64 (((p0.Ins).length : Int) + 1)))))], [.blk 26 (T_api_Code.pvs p0)]⟩) (tips := []) (by kernel_rfl) all0 (norm ?_)
  refine At.seq ?_
  refine At.cond (decide (x46 < (w64 (((p0.Ins).length : Int) + 1)))) (by kernel_rfl) (fun b50 => ?_) (fun b50 => ?_)
  · replace h := cond_t b50 h
    refine At.nar [1, 2, 5, 10, 11] [0] (st' := ⟨[(1, i64 p1), (2, .ptr 0 0), (5, i64 x45), (10, i64 (w64 (((p0.Ins).length : Int) + 1))), (11, i64 x46)], [.blk 26 (T_api_Code.pvs p0)]⟩) (by kernel_rfl) ?_
    refine At.skip (norm ?_)
    refine At.seq ?_
    refine At.block ?_
    refine At.seq ?_
    refine At.seqJ (S := Bool) (fun s => ⟨[(1, i64 p1), (2, .ptr 0 0), (5, i64 x45), (10, i64 (w64 (((p0.Ins).length : Int) + 1))), (11, i64 x46), (30, bo s)], [.blk 26 (T_api_Code.pvs p0)]⟩) (fun s => F_code_Settle_J1 p0 x45 x46 s = some oo47) ?_ ?_
    · rcases tf (decide (x45 < 0)) with b84 | b84
      · replace h := cond_t b84 h
        refine At.region_end [1, 2, 5, 10, 11, 30] [0] _ (st' := ⟨[(1, i64 p1), (2, .ptr 0 0), (5, i64 x45), (10, i64 (w64 (((p0.Ins).length : Int) + 1))), (11, i64 x46), (30, bo true)], [.blk 26 (T_api_Code.pvs p0)]⟩) (tips := [(2, { orc := .val (.bool true) })]) (by kernel_rfl) (allc (congrArg D.bool b84) all0) (fun a w hs => ⟨true, h, hs⟩)
      · replace h := cond_f b84 h
        rcases tf (decide (((p0.Ins).length : Int) ≤ x45)) with b85 | b85
        · replace h := cond_t b85 h
          refine At.region_end [1, 2, 5, 10, 11, 30] [0] _ (st' := ⟨[(1, i64 p1), (2, .ptr 0 0), (5, i64 x45), (10, i64 (w64 (((p0.Ins).length : Int) + 1))), (11, i64 x46), (30, bo true)], [.blk 26 (T_api_Code.pvs p0)]⟩) (tips := [(2, { orc := .val (.bool false) }), (9, { orc := .val (.bool true) })]) (by kernel_rfl) (allc (congrArg D.bool b84) (allc (congrArg D.bool b85) all0)) (fun a w hs => ⟨true, h, hs⟩)
        · replace h := cond_f b85 h
          obtain ⟨y86, hy86, h⟩ := bind_some h
          refine At.region_end [1, 2, 5, 10, 11, 30] [0] _ (st' := ⟨[(1, i64 p1), (2, .ptr 0 0), (5, i64 x45), (10, i64 (w64 (((p0.Ins).length : Int) + 1))), (11, i64 x46), (30, bo (y86.Op != 6))], [.blk 26 (T_api_Code.pvs p0)]⟩) (tips := [(2, { orc := .val (.bool false) }), (9, { orc := .val (.bool false) }), (13, { orc := .cells (T_api_Ins.enc y86) })]) (by kernel_rfl) (allc (congrArg D.bool b84) (allc (congrArg D.bool b85) (allc (elemAt_of T_api_Ins.enc_len hy86) all0))) (fun a w hs => ⟨(y86.Op != 6), h, hs⟩)
    · intro x79 h
      replace h : F_code_Settle_J1 p0 x45 x46 x79 = some oo47 := h
      rw [F_code_Settle_J1] at h
      refine At.cond x79 (by kernel_rfl) (fun b80 => ?_) (fun b80 => ?_)
      · replace h := cond_t b80 h
        refine At.seq ?_
        refine At.region_end [4] [] _ (st' := ⟨[(4, i64 x45)], []⟩) (tips := []) (by kernel_rfl) all0 (norm ?_)
        obtain ⟨r81, h, e82⟩ := map_inr h
        rw [f48 _ e82] at h
        obtain rfl := some_eq h
        exact At.ret fun a w hs => ret_ok hR (ρ := []) (gs := []) (by kernel_rfl) all0 (by kernel_rfl) rfl rfl a w hs _ (.inl rfl)
      · replace h := cond_f b80 h
        refine At.nar [1, 2, 5, 10, 11] [0] (st' := ⟨[(1, i64 p1), (2, .ptr 0 0), (5, i64 x45), (10, i64 (w64 (((p0.Ins).length : Int) + 1))), (11, i64 x46)], [.blk 26 (T_api_Code.pvs p0)]⟩) (by kernel_rfl) ?_
        refine At.skip (norm ?_)
        obtain ⟨y83, hy83, h⟩ := bind_some h
        refine At.region_end [1, 2, 5, 10, 11] [0] _ (st' := ⟨[(1, i64 p1), (2, .ptr 0 0), (5, i64 y83.A), (10, i64 (w64 (((p0.Ins).length : Int) + 1))), (11, i64 x46)], [.blk 26 (T_api_Code.pvs p0)]⟩) (tips := [(3, { orc := .cells (T_api_Ins.enc y83) })]) (by kernel_rfl) (allc (elemAt_of T_api_Ins.enc_len hy83) all0) (norm ?_)
        refine At.region_end [1, 2, 5, 10, 11] [0] _ (st' := ⟨[(1, i64 p1), (2, .ptr 0 0), (5, i64 y83.A), (10, i64 (w64 (((p0.Ins).length : Int) + 1))), (11, i64 (w64 (x46 + 1)))], [.blk 26 (T_api_Code.pvs p0)]⟩) (tips := []) (by kernel_rfl) all0 (fun a w hs => ⟨_, (some_eq h).symm, hs⟩)
  · replace h := cond_f b50 h
    refine At.nar [1] [] (st' := ⟨[(1, i64 p1)], []⟩) (by kernel_rfl) ?_
    obtain ⟨r87, h, e88⟩ := map_inr h
    rw [f48 _ e88] at h
    refine At.exit (norm ?_)
    refine At.seq ?_
    refine At.region_end [4] [] _ (st' := ⟨[(4, i64 p1)], []⟩) (tips := []) (by kernel_rfl) all0 (norm ?_)
    obtain rfl := some_eq h
    exact At.ret fun a w hs => ret_ok hR (ρ := []) (gs := []) (by kernel_rfl) all0 (by kernel_rfl) rfl rfl a w hs _ (.inl rfl)
set_option maxRecDepth 100000 in
theorem C_proc_Goes (p0 : T_api_Code) (p1 : T_api_Proc) (p2 : Int) (r : T_api_Proc) (h : F_proc_Goes p0 p1 p2 = some r) : FnOK Try.prog 38 [.agg (T_api_Code.pvs p0), .agg (T_api_Proc.pvs p1), i64 p2] [] (.agg (T_api_Proc.pvs r)) [] [] := by
  rw [F_proc_Goes] at h
  refine FnOK.intro Try.func38 rfl (by kernel_rfl) (by kernel_rfl) fun E gv R hR => ?_
  refine At.seq ?_
  refine At.region_end [2, 3, 4, 6] [0, 1, 2] _ (st' := ⟨[(2, i64 p2), (3, .ptr 0 0), (4, .ptr 1 0), (6, .ptr 2 0)], [.blk 26 (T_api_Code.pvs p0), .blk 38 (T_api_Proc.pvs p1), .blk 38 [i64 0, i64 0, .d (.list true 0 []), i64 0, i64 0, i64 0, i64 0, i64 0, i64 0, i64 0, .d (.list true 0 [])]]⟩) (tips := []) (by kernel_rfl) all0 (norm ?_)
  refine At.seq ?_
  obtain ⟨y3, hy3, h⟩ := bind_some h
  obtain ⟨y4, hy4, h⟩ := bind_some h
  refine At.draw_end mixedOrd 2 [3, 6, 7] [0, 2, 4, 3] _ (st' := ⟨[(3, .ptr 0 0), (6, .ptr 1 0), (7, .ptr 2 0)], [.blk 26 (T_api_Code.pvs p0), .blk 38 [i64 0, i64 0, .d (.list true 0 []), i64 0, i64 0, i64 0, i64 0, i64 0, i64 0, i64 0, .d (.list true 0 [])], .blk 38 [i64 p1.Def, i64 y3, .row 3 (y4).length, i64 p1.Fuel, i64 0, i64 0, i64 0, i64 0, i64 0, i64 0, .d (.list true 0 [])], .row 3 1 (encL (eInt .i64) y4)]⟩) (tips := [(0, { r := 3 }), (1, { T := [1], r := 3 }), (2, { T := [0], r := 3 }), (4, { tip := { pc := some { ρ := [], n0 := 0, res := i64 y3, σ' := [], e := [] } }, r := 3 }), (5, { r := 3 }), (6, { T := [1], r := 3 }), (7, { tip := { pc := some { ρ := [3], n0 := 0, res := .row 0 (y4).length, σ' := [.row 3 1 (encL (eInt .i64) y4)], e := [] } }, r := 3 }), (8, { r := 4 }), (9, { T := [1], r := 4 }), (10, { r := 4 }), (11, { r := 4 }), (12, { T := [4], r := 5 })]) (by kernel_rfl) (allc (C_code_Settle p0 p2 y3 hy3) (allc (C_slices_Clone_int_int p1.Vars y4 hy4) all0)) (norm ?_)
  refine At.seqJ (S := Int × Int) (fun s => ⟨[(6, .ptr 0 0), (7, .ptr 1 0)], [.blk 38 [i64 0, i64 0, .d (.list true 0 []), i64 0, i64 0, i64 0, i64 0, i64 0, i64 0, i64 0, .d (.list true 0 [])], .blk 38 [i64 p1.Def, i64 s.1, .row 2 (y4).length, i64 p1.Fuel, i64 s.2, i64 0, i64 0, i64 0, i64 0, i64 0, .d (.list true 0 [])], .row 3 1 (encL (eInt .i64) y4)]⟩) (fun s => F_proc_Goes_J1 p1 y4 s.1 s.2 = some r) ?_ ?_
  · refine At.seqJ (S := Bool) (fun s => ⟨[(6, .ptr 0 0), (7, .ptr 1 0), (39, bo s)], [.blk 38 [i64 0, i64 0, .d (.list true 0 []), i64 0, i64 0, i64 0, i64 0, i64 0, i64 0, i64 0, .d (.list true 0 [])], .blk 38 [i64 p1.Def, i64 y3, .row 2 (y4).length, i64 p1.Fuel, i64 0, i64 0, i64 0, i64 0, i64 0, i64 0, .d (.list true 0 [])], .row 3 1 (encL (eInt .i64) y4)]⟩) (fun s => F_proc_Goes_J2 p1 y3 y4 s = some r) ?_ ?_
    · rcases tf (decide (0 ≤ y3)) with b20 | b20
      · replace h := cond_t b20 h
        rcases tf (decide (y3 < ((p0.Ins).length : Int))) with b21 | b21
        · replace h := cond_t b21 h
          obtain ⟨y22, hy22, h⟩ := bind_some h
          refine At.region_end [6, 7, 39] [1, 2, 3] _ (st' := ⟨[(6, .ptr 0 0), (7, .ptr 1 0), (39, bo (y22.Op == 24))], [.blk 38 [i64 0, i64 0, .d (.list true 0 []), i64 0, i64 0, i64 0, i64 0, i64 0, i64 0, i64 0, .d (.list true 0 [])], .blk 38 [i64 p1.Def, i64 y3, .row 2 (y4).length, i64 p1.Fuel, i64 0, i64 0, i64 0, i64 0, i64 0, i64 0, .d (.list true 0 [])], .row 3 1 (encL (eInt .i64) y4)]⟩) (tips := [(3, { orc := .val (.bool true) }), (11, { orc := .val (.bool true) }), (16, { orc := .cells (T_api_Ins.enc y22) })]) (by kernel_rfl) (allc (congrArg D.bool b20) (allc (congrArg D.bool b21) (allc (elemAt_of T_api_Ins.enc_len hy22) all0))) (fun a w hs => ⟨(y22.Op == 24), h, hs⟩)
        · replace h := cond_f b21 h
          refine At.region_end [6, 7, 39] [1, 2, 3] _ (st' := ⟨[(6, .ptr 0 0), (7, .ptr 1 0), (39, bo false)], [.blk 38 [i64 0, i64 0, .d (.list true 0 []), i64 0, i64 0, i64 0, i64 0, i64 0, i64 0, i64 0, .d (.list true 0 [])], .blk 38 [i64 p1.Def, i64 y3, .row 2 (y4).length, i64 p1.Fuel, i64 0, i64 0, i64 0, i64 0, i64 0, i64 0, .d (.list true 0 [])], .row 3 1 (encL (eInt .i64) y4)]⟩) (tips := [(3, { orc := .val (.bool true) }), (11, { orc := .val (.bool false) })]) (by kernel_rfl) (allc (congrArg D.bool b20) (allc (congrArg D.bool b21) all0)) (fun a w hs => ⟨false, h, hs⟩)
      · replace h := cond_f b20 h
        refine At.region_end [6, 7, 39] [1, 2, 3] _ (st' := ⟨[(6, .ptr 0 0), (7, .ptr 1 0), (39, bo false)], [.blk 38 [i64 0, i64 0, .d (.list true 0 []), i64 0, i64 0, i64 0, i64 0, i64 0, i64 0, i64 0, .d (.list true 0 [])], .blk 38 [i64 p1.Def, i64 y3, .row 2 (y4).length, i64 p1.Fuel, i64 0, i64 0, i64 0, i64 0, i64 0, i64 0, .d (.list true 0 [])], .row 3 1 (encL (eInt .i64) y4)]⟩) (tips := [(3, { orc := .val (.bool false) })]) (by kernel_rfl) (allc (congrArg D.bool b20) all0) (fun a w hs => ⟨false, h, hs⟩)
    · intro x18 h
      replace h : F_proc_Goes_J2 p1 y3 y4 x18 = some r := h
      rw [F_proc_Goes_J2] at h
      refine At.cond x18 (by kernel_rfl) (fun b19 => ?_) (fun b19 => ?_)
      · replace h := cond_t b19 h
        refine At.region_end [6, 7] [0, 1, 2] _ (st' := ⟨[(6, .ptr 0 0), (7, .ptr 1 0)], [.blk 38 [i64 0, i64 0, .d (.list true 0 []), i64 0, i64 0, i64 0, i64 0, i64 0, i64 0, i64 0, .d (.list true 0 [])], .blk 38 [i64 p1.Def, i64 0, .row 2 (y4).length, i64 p1.Fuel, i64 5, i64 0, i64 0, i64 0, i64 0, i64 0, .d (.list true 0 [])], .row 3 1 (encL (eInt .i64) y4)]⟩) (tips := []) (by kernel_rfl) all0 (fun a w hs => ⟨(0, 5), h, hs⟩)
      · replace h := cond_f b19 h
        refine At.nar [6, 7] [0, 1, 2] (st' := ⟨[(6, .ptr 0 0), (7, .ptr 1 0)], [.blk 38 [i64 0, i64 0, .d (.list true 0 []), i64 0, i64 0, i64 0, i64 0, i64 0, i64 0, i64 0, .d (.list true 0 [])], .blk 38 [i64 p1.Def, i64 y3, .row 2 (y4).length, i64 p1.Fuel, i64 0, i64 0, i64 0, i64 0, i64 0, i64 0, .d (.list true 0 [])], .row 3 1 (encL (eInt .i64) y4)]⟩) (by kernel_rfl) ?_
        refine At.skip (fun a w hs => ⟨(y3, 0), h, hs⟩)
  · rintro ⟨x13, x14⟩ h
    replace h : F_proc_Goes_J1 p1 y4 x13 x14 = some r := h
    rw [F_proc_Goes_J1] at h
    refine At.seq ?_
    refine At.region_end [6] [0, 2] _ (st' := ⟨[(6, .ptr 0 0)], [.blk 38 [i64 p1.Def, i64 x13, .row 1 (y4).length, i64 p1.Fuel, i64 x14, i64 0, i64 0, i64 0, i64 0, i64 0, .d (.list true 0 [])], .row 3 1 (encL (eInt .i64) y4)]⟩) (tips := []) (by kernel_rfl) all0 (norm ?_)
    refine At.edNar [.settle 1, .loO 0] [6] [0] (st' := ⟨[(6, .ptr 0 0)], [.blk 38 [i64 p1.Def, i64 x13, lv (eInt .i64) y4, i64 p1.Fuel, i64 x14, i64 0, i64 0, i64 0, i64 0, i64 0, lv T_api_Alt.enc ([] : List T_api_Alt)]]⟩) (by kernel_rfl) ?_
    obtain rfl := some_eq h
    exact At.ret fun a w hs => ret_ok hR (ρ := []) (gs := []) (by kernel_rfl) all0 (by kernel_rfl) rfl rfl a w hs _ (.inl rfl)
end Go.Ab
