import Derived.Test.YtgihgmnmefbjbaaGreatGZ1
namespace Go.Ab
open Go.Proofs
set_option linter.unusedVariables false
set_option maxRecDepth 100000 in
theorem C_code_Settle (p0 : T_api_Code) (p1 : Int) (r : Int) (h : F_code_Settle p0 p1 = some r) : FnOK Tryz.prog 37 [.agg (T_api_Code.pvs p0), i64 p1] [] (i64 r) [] [] := by
  rw [F_code_Settle] at h
  refine FnOK.intro Tryz.func37 rfl (by kernel_rfl) (by kernel_rfl) fun E gv R hR => ?_
  refine At.seq ?_
  refine At.rg [1, 2] [0] [] (by kernel_rfl) all0 (norm ?_)
  refine At.seq ?_
  refine At.rg [1, 2, 5] [0] [] (by kernel_rfl) all0 (norm ?_)
  refine At.seq ?_
  refine At.seq ?_
  refine At.rg [1, 2, 5, 10, 11] [0] [] (by kernel_rfl) all0 (norm ?_)
  refine At.block ?_
  refine At.nar [1, 2, 5, 10, 11] [0] (st' := ⟨[(1, i64 p1), (2, .ptr 0 0), (5, i64 p1), (10, i64 (w64 (((p0.Ins).length : Int) + 1))), (11, i64 0)], [.blk 26 (T_api_Code.pvs p0)]⟩) (by kernel_rfl) ?_
  refine At.loop (fun s : (Int × Int) => F_code_Settle_L2 p0 p1 s.1 s.2) (fun s : (Int × Int) => ⟨[(1, i64 p1), (2, .ptr 0 0), (5, i64 s.1), (10, i64 (w64 (((p0.Ins).length : Int) + 1))), (11, i64 s.2)], [.blk 26 (T_api_Code.pvs p0)]⟩) r (p1, 0) h ?_
  rintro ⟨x45, x46⟩ oo47 h f48
  replace h : F_code_Settle_L2 p0 p1 x45 x46 = some oo47 := h
  rw [F_code_Settle_L2] at h
  refine At.seq ?_
  refine At.rg [1, 2, 5, 10, 11, 12] [0] [] (by kernel_rfl) all0 (norm ?_)
  refine At.seq ?_
  refine At.cond (decide (x46 < (w64 (((p0.Ins).length : Int) + 1)))) (by kernel_rfl) (fun b50 => ?_) (fun b50 => ?_)
  · replace h := cond_t b50 h
    refine At.nr [1, 2, 5, 10, 11] [0] (by kernel_rfl) ?_
    refine At.skip (norm ?_)
    refine At.seq ?_
    refine At.block ?_
    refine At.seq ?_
    refine At.seqJ (S := Bool) (fun s => ⟨[(1, i64 p1), (2, .ptr 0 0), (5, i64 x45), (10, i64 (w64 (((p0.Ins).length : Int) + 1))), (11, i64 x46), (30, bo s)], [.blk 26 (T_api_Code.pvs p0)]⟩) (fun s => F_code_Settle_J1 p0 x45 x46 s = some oo47) ?_ ?_
    · rcases tf (decide (x45 < 0)) with b84 | b84
      · replace h := cond_t b84 h
        refine At.rg [1, 2, 5, 10, 11, 30] [0] [(2, { orc := .val (.bool true) })] (by kernel_rfl) (allc (congrArg D.bool b84) all0) (edq (l := []) (ks := [1, 2, 5, 10, 11, 30]) (ρ := [0]) (st' := ⟨[(1, i64 p1), (2, .ptr 0 0), (5, i64 x45), (10, i64 (w64 (((p0.Ins).length : Int) + 1))), (11, i64 x46), (30, bo true)], [.blk 26 (T_api_Code.pvs p0)]⟩) (by kernel_rfl) (fun a w hs => ⟨true, h, hs⟩))
      · replace h := cond_f b84 h
        rcases tf (decide (((p0.Ins).length : Int) ≤ x45)) with b85 | b85
        · replace h := cond_t b85 h
          refine At.rg [1, 2, 5, 10, 11, 30] [0] [(2, { orc := .val (.bool false) }), (9, { orc := .val (.bool true) })] (by kernel_rfl) (allc (congrArg D.bool b84) (allc (congrArg D.bool b85) all0)) (edq (l := []) (ks := [1, 2, 5, 10, 11, 30]) (ρ := [0]) (st' := ⟨[(1, i64 p1), (2, .ptr 0 0), (5, i64 x45), (10, i64 (w64 (((p0.Ins).length : Int) + 1))), (11, i64 x46), (30, bo true)], [.blk 26 (T_api_Code.pvs p0)]⟩) (by kernel_rfl) (fun a w hs => ⟨true, h, hs⟩))
        · replace h := cond_f b85 h
          obtain ⟨y86, hy86, h⟩ := bind_some h
          refine At.rg [1, 2, 5, 10, 11, 30] [0] [(2, { orc := .val (.bool false) }), (9, { orc := .val (.bool false) }), (13, { orc := .cells (T_api_Ins.enc y86) })] (by kernel_rfl) (allc (congrArg D.bool b84) (allc (congrArg D.bool b85) (allc (elemAt_of T_api_Ins.enc_len hy86) all0))) (edq (l := []) (ks := [1, 2, 5, 10, 11, 30]) (ρ := [0]) (st' := ⟨[(1, i64 p1), (2, .ptr 0 0), (5, i64 x45), (10, i64 (w64 (((p0.Ins).length : Int) + 1))), (11, i64 x46), (30, bo (y86.Op != 6))], [.blk 26 (T_api_Code.pvs p0)]⟩) (by kernel_rfl) (fun a w hs => ⟨(y86.Op != 6), h, hs⟩))
    · intro x79 h
      replace h : F_code_Settle_J1 p0 x45 x46 x79 = some oo47 := h
      rw [F_code_Settle_J1] at h
      refine At.cond x79 (by kernel_rfl) (fun b80 => ?_) (fun b80 => ?_)
      · replace h := cond_t b80 h
        refine At.seq ?_
        refine At.rg [4] [] [] (by kernel_rfl) all0 (norm ?_)
        obtain ⟨r81, h, e82⟩ := map_inr h
        rw [f48 _ e82] at h
        obtain rfl := some_eq h
        exact At.ret fun a w hs => ret_ok hR (ρ := []) (gs := []) (by kernel_rfl) all0 (by kernel_rfl) rfl rfl a w hs _ (.inl rfl)
      · replace h := cond_f b80 h
        refine At.nr [1, 2, 5, 10, 11] [0] (by kernel_rfl) ?_
        refine At.skip (norm ?_)
        obtain ⟨y83, hy83, h⟩ := bind_some h
        refine At.rg [1, 2, 5, 10, 11] [0] [(3, { orc := .cells (T_api_Ins.enc y83) })] (by kernel_rfl) (allc (elemAt_of T_api_Ins.enc_len hy83) all0) (norm ?_)
        refine At.rg [1, 2, 5, 10, 11] [0] [] (by kernel_rfl) all0 (edq (l := []) (ks := [1, 2, 5, 10, 11]) (ρ := [0]) (st' := ⟨[(1, i64 p1), (2, .ptr 0 0), (5, i64 y83.A), (10, i64 (w64 (((p0.Ins).length : Int) + 1))), (11, i64 (w64 (x46 + 1)))], [.blk 26 (T_api_Code.pvs p0)]⟩) (by kernel_rfl) (fun a w hs => ⟨_, (some_eq h).symm, hs⟩))
  · replace h := cond_f b50 h
    refine At.nr [1] [] (by kernel_rfl) ?_
    obtain ⟨r87, h, e88⟩ := map_inr h
    rw [f48 _ e88] at h
    refine At.exit (norm ?_)
    refine At.seq ?_
    refine At.rg [4] [] [] (by kernel_rfl) all0 (norm ?_)
    obtain rfl := some_eq h
    exact At.ret fun a w hs => ret_ok hR (ρ := []) (gs := []) (by kernel_rfl) all0 (by kernel_rfl) rfl rfl a w hs _ (.inl rfl)
set_option maxRecDepth 100000 in
theorem C_proc_Goes (p0 : T_api_Code) (p1 : T_api_Proc) (p2 : Int) (r : T_api_Proc) (h : F_proc_Goes p0 p1 p2 = some r) : FnOK Tryz.prog 18 [.agg (T_api_Code.pvs p0), .agg (T_api_Proc.pvs p1), i64 p2] [] (.agg (T_api_Proc.pvs r)) [] [] := by
  rw [F_proc_Goes] at h
  refine FnOK.intro Tryz.func18 rfl (by kernel_rfl) (by kernel_rfl) fun E gv R hR => ?_
  refine At.seq ?_
  refine At.rg [2, 3, 4, 6] [0, 1, 2] [] (by kernel_rfl) all0 (norm ?_)
  refine At.seq ?_
  obtain ⟨y3, hy3, h⟩ := bind_some h
  obtain ⟨y4, hy4, h⟩ := bind_some h
  refine At.dg mixedOrd 2 [3, 6, 7] [0, 2, 4, 3] [(0, { r := 3 }), (1, { T := [1], r := 3 }), (2, { T := [0], r := 3 }), (4, { tip := { pc := some { ρ := [], n0 := 0, res := i64 y3, σ' := [], e := [] } }, r := 3 }), (5, { r := 3 }), (6, { T := [1], r := 3 }), (7, { tip := { pc := some { ρ := [3], n0 := 0, res := .row 0 (y4).length, σ' := [.row 3 1 (encL (eInt .i64) y4)], e := [] } }, r := 3 }), (8, { r := 4 }), (9, { T := [1], r := 4 }), (10, { r := 4 }), (11, { r := 4 }), (12, { T := [4], r := 5 })] (by kernel_rfl) (allc (C_code_Settle p0 p2 y3 hy3) (allc (C_slices_Clone_int_int p1.Vars y4 hy4) all0)) (norm ?_)
  refine At.seqJ (S := Int × Int) (fun s => ⟨[(6, .ptr 0 0), (7, .ptr 1 0)], [.blk 30 [i64 0, i64 0, .d (.list true 0 []), i64 0, i64 0, i64 0, i64 0, i64 0, i64 0, i64 0, .d (.list true 0 [])], .blk 30 [i64 p1.Def, i64 s.1, .row 2 (y4).length, i64 p1.Fuel, i64 s.2, i64 0, i64 0, i64 0, i64 0, i64 0, .d (.list true 0 [])], .row 3 1 (encL (eInt .i64) y4)]⟩) (fun s => F_proc_Goes_J1 p1 y4 s.1 s.2 = some r) ?_ ?_
  · refine At.seqJ (S := Bool) (fun s => ⟨[(6, .ptr 0 0), (7, .ptr 1 0), (39, bo s)], [.blk 30 [i64 0, i64 0, .d (.list true 0 []), i64 0, i64 0, i64 0, i64 0, i64 0, i64 0, i64 0, .d (.list true 0 [])], .blk 30 [i64 p1.Def, i64 y3, .row 2 (y4).length, i64 p1.Fuel, i64 0, i64 0, i64 0, i64 0, i64 0, i64 0, .d (.list true 0 [])], .row 3 1 (encL (eInt .i64) y4)]⟩) (fun s => F_proc_Goes_J2 p1 y3 y4 s = some r) ?_ ?_
    · rcases tf (decide (0 ≤ y3)) with b20 | b20
      · replace h := cond_t b20 h
        rcases tf (decide (y3 < ((p0.Ins).length : Int))) with b21 | b21
        · replace h := cond_t b21 h
          obtain ⟨y22, hy22, h⟩ := bind_some h
          refine At.rg [6, 7, 39] [1, 2, 3] [(3, { orc := .val (.bool true) }), (11, { orc := .val (.bool true) }), (16, { orc := .cells (T_api_Ins.enc y22) })] (by kernel_rfl) (allc (congrArg D.bool b20) (allc (congrArg D.bool b21) (allc (elemAt_of T_api_Ins.enc_len hy22) all0))) (edq (l := []) (ks := [6, 7, 39]) (ρ := [0, 1, 2]) (st' := ⟨[(6, .ptr 0 0), (7, .ptr 1 0), (39, bo (y22.Op == 24))], [.blk 30 [i64 0, i64 0, .d (.list true 0 []), i64 0, i64 0, i64 0, i64 0, i64 0, i64 0, i64 0, .d (.list true 0 [])], .blk 30 [i64 p1.Def, i64 y3, .row 2 (y4).length, i64 p1.Fuel, i64 0, i64 0, i64 0, i64 0, i64 0, i64 0, .d (.list true 0 [])], .row 3 1 (encL (eInt .i64) y4)]⟩) (by kernel_rfl) (fun a w hs => ⟨(y22.Op == 24), h, hs⟩))
        · replace h := cond_f b21 h
          refine At.rg [6, 7, 39] [1, 2, 3] [(3, { orc := .val (.bool true) }), (11, { orc := .val (.bool false) })] (by kernel_rfl) (allc (congrArg D.bool b20) (allc (congrArg D.bool b21) all0)) (edq (l := []) (ks := [6, 7, 39]) (ρ := [0, 1, 2]) (st' := ⟨[(6, .ptr 0 0), (7, .ptr 1 0), (39, bo false)], [.blk 30 [i64 0, i64 0, .d (.list true 0 []), i64 0, i64 0, i64 0, i64 0, i64 0, i64 0, i64 0, .d (.list true 0 [])], .blk 30 [i64 p1.Def, i64 y3, .row 2 (y4).length, i64 p1.Fuel, i64 0, i64 0, i64 0, i64 0, i64 0, i64 0, .d (.list true 0 [])], .row 3 1 (encL (eInt .i64) y4)]⟩) (by kernel_rfl) (fun a w hs => ⟨false, h, hs⟩))
      · replace h := cond_f b20 h
        refine At.rg [6, 7, 39] [1, 2, 3] [(3, { orc := .val (.bool false) })] (by kernel_rfl) (allc (congrArg D.bool b20) all0) (edq (l := []) (ks := [6, 7, 39]) (ρ := [0, 1, 2]) (st' := ⟨[(6, .ptr 0 0), (7, .ptr 1 0), (39, bo false)], [.blk 30 [i64 0, i64 0, .d (.list true 0 []), i64 0, i64 0, i64 0, i64 0, i64 0, i64 0, i64 0, .d (.list true 0 [])], .blk 30 [i64 p1.Def, i64 y3, .row 2 (y4).length, i64 p1.Fuel, i64 0, i64 0, i64 0, i64 0, i64 0, i64 0, .d (.list true 0 [])], .row 3 1 (encL (eInt .i64) y4)]⟩) (by kernel_rfl) (fun a w hs => ⟨false, h, hs⟩))
    · intro x18 h
      replace h : F_proc_Goes_J2 p1 y3 y4 x18 = some r := h
      rw [F_proc_Goes_J2] at h
      refine At.cond x18 (by kernel_rfl) (fun b19 => ?_) (fun b19 => ?_)
      · replace h := cond_t b19 h
        refine At.rg [6, 7] [0, 1, 2] [] (by kernel_rfl) all0 (edq (l := []) (ks := [6, 7]) (ρ := [0, 1, 2]) (st' := ⟨[(6, .ptr 0 0), (7, .ptr 1 0)], [.blk 30 [i64 0, i64 0, .d (.list true 0 []), i64 0, i64 0, i64 0, i64 0, i64 0, i64 0, i64 0, .d (.list true 0 [])], .blk 30 [i64 p1.Def, i64 0, .row 2 (y4).length, i64 p1.Fuel, i64 5, i64 0, i64 0, i64 0, i64 0, i64 0, .d (.list true 0 [])], .row 3 1 (encL (eInt .i64) y4)]⟩) (by kernel_rfl) (fun a w hs => ⟨(0, 5), h, hs⟩))
      · replace h := cond_f b19 h
        refine At.nr [6, 7] [0, 1, 2] (by kernel_rfl) ?_
        refine At.skip (edq (l := []) (ks := [6, 7]) (ρ := [0, 1, 2]) (st' := ⟨[(6, .ptr 0 0), (7, .ptr 1 0)], [.blk 30 [i64 0, i64 0, .d (.list true 0 []), i64 0, i64 0, i64 0, i64 0, i64 0, i64 0, i64 0, .d (.list true 0 [])], .blk 30 [i64 p1.Def, i64 y3, .row 2 (y4).length, i64 p1.Fuel, i64 0, i64 0, i64 0, i64 0, i64 0, i64 0, .d (.list true 0 [])], .row 3 1 (encL (eInt .i64) y4)]⟩) (by kernel_rfl) (fun a w hs => ⟨(y3, 0), h, hs⟩))
  · rintro ⟨x13, x14⟩ h
    replace h : F_proc_Goes_J1 p1 y4 x13 x14 = some r := h
    rw [F_proc_Goes_J1] at h
    refine At.seq ?_
    refine At.rg [6] [0, 2] [] (by kernel_rfl) all0 (norm ?_)
    refine At.en [.settle 1, .loO 0] [6] [0] (by kernel_rfl) ?_
    obtain rfl := some_eq h
    exact At.ret fun a w hs => ret_ok hR (ρ := []) (gs := []) (by kernel_rfl) all0 (by kernel_rfl) rfl rfl a w hs _ (.inl rfl)
set_option maxRecDepth 100000 in
theorem C_proc_New (p0 : T_api_Code) (p1 : Int) (p2 : (List Int)) (p3 : Int) (r : T_api_Proc × Int) (h : F_proc_New p0 p1 p2 p3 = some r) : FnOK Tryz.prog 14 [.agg (T_api_Code.pvs p0), i64 p1, lv (eInt .i64) p2, i64 p3] [] (.tup [.agg (T_api_Proc.pvs r.1), i64 r.2]) [] [] := by
  rw [F_proc_New] at h
  refine FnOK.intro Tryz.func14 rfl (by kernel_rfl) (by kernel_rfl) fun E gv R hR => ?_
  refine At.seq ?_
  refine At.rg [1, 2, 3, 4, 8] [0, 1] [] (by kernel_rfl) all0 (norm ?_)
  refine At.seq ?_
  refine At.seqJ (S := Bool) (fun s => ⟨[(1, i64 p1), (2, lv (eInt .i64) p2), (3, i64 p3), (4, .ptr 0 0), (8, .ptr 1 0), (33, bo s)], [.blk 26 (T_api_Code.pvs p0), .blk 30 [i64 0, i64 0, .d (.list true 0 []), i64 0, i64 0, i64 0, i64 0, i64 0, i64 0, i64 0, .d (.list true 0 [])]]⟩) (fun s => F_proc_New_J1 p0 p1 p2 p3 s = some r) ?_ ?_
  · obtain ⟨y52, hy52, h⟩ := bind_some h
    rcases tf (!y52) with b53 | b53
    · replace h := cond_t b53 h
      refine At.rg [1, 2, 3, 4, 8, 33] [0, 1] [(5, { pc := some { ρ := [], n0 := 0, res := bo y52, σ' := [], e := [] } }), (7, { orc := .val (.bool true) })] (by kernel_rfl) (allc (C_proc_within p1 (w64 (((p0.Defs).length : Int) - 1)) y52 hy52) (allc (congrArg D.bool b53) all0)) (edq (l := []) (ks := [1, 2, 3, 4, 8, 33]) (ρ := [0, 1]) (st' := ⟨[(1, i64 p1), (2, lv (eInt .i64) p2), (3, i64 p3), (4, .ptr 0 0), (8, .ptr 1 0), (33, bo true)], [.blk 26 (T_api_Code.pvs p0), .blk 30 [i64 0, i64 0, .d (.list true 0 []), i64 0, i64 0, i64 0, i64 0, i64 0, i64 0, i64 0, .d (.list true 0 [])]]⟩) (by kernel_rfl) (fun a w hs => ⟨true, h, hs⟩))
    · replace h := cond_f b53 h
      obtain ⟨y54, hy54, h⟩ := bind_some h
      rcases tf (((p2).length : Int) != y54.Params) with b55 | b55
      · replace h := cond_t b55 h
        refine At.rg [1, 2, 3, 4, 8, 33] [0, 1] [(5, { pc := some { ρ := [], n0 := 0, res := bo y52, σ' := [], e := [] } }), (7, { orc := .val (.bool false) }), (13, { orc := .cells (T_api_Def.enc y54) }), (18, { orc := .val (.bool true) })] (by kernel_rfl) (allc (C_proc_within p1 (w64 (((p0.Defs).length : Int) - 1)) y52 hy52) (allc (congrArg D.bool b53) (allc (elemAt_of T_api_Def.enc_len hy54) (allc (congrArg D.bool b55) all0)))) (edq (l := []) (ks := [1, 2, 3, 4, 8, 33]) (ρ := [0, 1]) (st' := ⟨[(1, i64 p1), (2, lv (eInt .i64) p2), (3, i64 p3), (4, .ptr 0 0), (8, .ptr 1 0), (33, bo true)], [.blk 26 (T_api_Code.pvs p0), .blk 30 [i64 0, i64 0, .d (.list true 0 []), i64 0, i64 0, i64 0, i64 0, i64 0, i64 0, i64 0, .d (.list true 0 [])]]⟩) (by kernel_rfl) (fun a w hs => ⟨true, h, hs⟩))
      · replace h := cond_f b55 h
        obtain ⟨y56, hy56, h⟩ := bind_some h
        refine At.rg [1, 2, 3, 4, 8, 33] [0, 1] [(5, { pc := some { ρ := [], n0 := 0, res := bo y52, σ' := [], e := [] } }), (7, { orc := .val (.bool false) }), (13, { orc := .cells (T_api_Def.enc y54) }), (18, { orc := .val (.bool false) }), (20, { pc := some { ρ := [], n0 := 0, res := bo y56, σ' := [], e := [] } })] (by kernel_rfl) (allc (C_proc_within p1 (w64 (((p0.Defs).length : Int) - 1)) y52 hy52) (allc (congrArg D.bool b53) (allc (elemAt_of T_api_Def.enc_len hy54) (allc (congrArg D.bool b55) (allc (C_proc_within p3 1048576 y56 hy56) all0))))) (edq (l := []) (ks := [1, 2, 3, 4, 8, 33]) (ρ := [0, 1]) (st' := ⟨[(1, i64 p1), (2, lv (eInt .i64) p2), (3, i64 p3), (4, .ptr 0 0), (8, .ptr 1 0), (33, bo (!y56))], [.blk 26 (T_api_Code.pvs p0), .blk 30 [i64 0, i64 0, .d (.list true 0 []), i64 0, i64 0, i64 0, i64 0, i64 0, i64 0, i64 0, .d (.list true 0 [])]]⟩) (by kernel_rfl) (fun a w hs => ⟨(!y56), h, hs⟩))
  · intro x18 h
    replace h : F_proc_New_J1 p0 p1 p2 p3 x18 = some r := h
    rw [F_proc_New_J1] at h
    refine At.cond x18 (by kernel_rfl) (fun b19 => ?_) (fun b19 => ?_)
    · replace h := cond_t b19 h
      refine At.seq ?_
      refine At.rg [8, 9] [1] [] (by kernel_rfl) all0 (norm ?_)
      refine At.en [.loO 0] [8, 9] [0] (by kernel_rfl) ?_
      obtain rfl := some_eq h
      exact At.ret fun a w hs => ret_ok hR (ρ := []) (gs := []) (by kernel_rfl) all0 (by kernel_rfl) rfl rfl a w hs _ (.inl rfl)
    · replace h := cond_f b19 h
      refine At.nr [1, 2, 3, 4, 8] [0, 1] (by kernel_rfl) ?_
      refine At.skip (norm ?_)
      refine At.seq ?_
      obtain ⟨y21, hy21, h⟩ := bind_some h
      refine At.rg [1, 4, 8, 10] [0, 1, 3, 2] [(2, { pc := some { ρ := [2], n0 := 0, res := .row 0 (y21).length, σ' := [.row 3 1 (encL (eInt .i64) y21)], e := [] } })] (by kernel_rfl) (allc (C_slices_Clone_int_int p2 y21 hy21) all0) (norm ?_)
      refine At.seq ?_
      refine At.block ?_
      refine At.nar [1, 4, 8, 10] [0, 1, 2, 3] (st' := ⟨[(1, i64 p1), (4, .ptr 0 0), (8, .ptr 1 0), (10, .ptr 2 0)], [.blk 26 (T_api_Code.pvs p0), .blk 30 [i64 0, i64 0, .d (.list true 0 []), i64 0, i64 0, i64 0, i64 0, i64 0, i64 0, i64 0, .d (.list true 0 [])], .blk 30 [i64 p1, i64 0, .row 3 (y21).length, i64 p3, i64 0, i64 0, i64 0, i64 0, i64 0, i64 0, .d (.list true 0 [])], .row 3 1 (encL (eInt .i64) y21)]⟩) (by kernel_rfl) ?_
      refine At.loop (fun s : ((List Int)) => F_proc_New_L2 p0 p1 p3 s) (fun s : ((List Int)) => ⟨[(1, i64 p1), (4, .ptr 0 0), (8, .ptr 1 0), (10, .ptr 2 0)], [.blk 26 (T_api_Code.pvs p0), .blk 30 [i64 0, i64 0, .d (.list true 0 []), i64 0, i64 0, i64 0, i64 0, i64 0, i64 0, i64 0, .d (.list true 0 [])], .blk 30 [i64 p1, i64 0, .row 3 (s).length, i64 p3, i64 0, i64 0, i64 0, i64 0, i64 0, i64 0, .d (.list true 0 [])], .row 3 1 (encL (eInt .i64) s)]⟩) r y21 h ?_
      intro x34 oo35 h f36
      replace h : F_proc_New_L2 p0 p1 p3 x34 = some oo35 := h
      rw [F_proc_New_L2] at h
      refine At.seq ?_
      refine At.seq ?_
      obtain ⟨y41, hy41, h⟩ := bind_some h
      refine At.dg mixedOrd 0 [1, 4, 8, 10, 49] [0, 1, 2, 3] [(0, { r := 4 }), (1, { T := [2], r := 4 }), (2, { r := 4 }), (3, { r := 4 }), (4, { T := [0], r := 4 }), (6, { tip := { orc := .cells (T_api_Def.enc y41) } })] (by kernel_rfl) (allc (elemAt_of T_api_Def.enc_len hy41) all0) (norm ?_)
      refine At.cond (decide (((x34).length : Int) < y41.Vars)) (by kernel_rfl) (fun b42 => ?_) (fun b42 => ?_)
      · replace h := cond_t b42 h
        refine At.nr [1, 4, 8, 10] [0, 1, 2, 3] (by kernel_rfl) ?_
        refine At.skip (norm ?_)
        refine At.block ?_
        obtain ⟨g43, h⟩ := grd_some h
        refine At.rg [1, 4, 8, 10] [0, 1, 2, 3] [(3, { form := some ((x34 ++ [0]).length, encL (eInt .i64) (x34 ++ [0])) })] (by kernel_rfl) (allc (len_app x34 ([0])) (allc (encL_app (eInt .i64) x34 ([0])) (allc (app_ok (he_int .i64) (by decide) g43) (allc (encL_len (he_int .i64) ([0])) all0)))) (edq (l := []) (ks := [1, 4, 8, 10]) (ρ := [0, 1, 2, 3]) (st' := ⟨[(1, i64 p1), (4, .ptr 0 0), (8, .ptr 1 0), (10, .ptr 2 0)], [.blk 26 (T_api_Code.pvs p0), .blk 30 [i64 0, i64 0, .d (.list true 0 []), i64 0, i64 0, i64 0, i64 0, i64 0, i64 0, i64 0, .d (.list true 0 [])], .blk 30 [i64 p1, i64 0, .row 3 ((x34 ++ [0])).length, i64 p3, i64 0, i64 0, i64 0, i64 0, i64 0, i64 0, .d (.list true 0 [])], .row 3 1 (encL (eInt .i64) (x34 ++ [0]))]⟩) (by kernel_rfl) (fun a w hs => ⟨_, (some_eq h).symm, hs⟩))
      · replace h := cond_f b42 h
        refine At.nr [1, 4, 8, 10] [0, 1, 2, 3] (by kernel_rfl) ?_
        obtain ⟨r44, h, e45⟩ := map_inr h
        rw [f36 _ e45] at h
        refine At.exit (norm ?_)
        refine At.seq ?_
        refine At.settle [3] (st' := ⟨[(1, i64 p1), (4, .ptr 0 0), (8, .ptr 1 0), (10, .ptr 2 0)], [.blk 26 (T_api_Code.pvs p0), .blk 30 [i64 0, i64 0, .d (.list true 0 []), i64 0, i64 0, i64 0, i64 0, i64 0, i64 0, i64 0, .d (.list true 0 [])], .blk 30 [i64 p1, i64 0, lv (eInt .i64) x34, i64 p3, i64 0, i64 0, i64 0, i64 0, i64 0, i64 0, .d (.list true 0 [])], .dead]⟩) (by kernel_rfl) ?_
        obtain ⟨y50, hy50, h⟩ := bind_some h
        obtain ⟨y51, hy51, h⟩ := bind_some h
        refine At.dg mixedOrd 0 [8, 9] [1] [(0, { T := [0], r := 4 }), (1, { T := [2], r := 4 }), (2, { r := 4 }), (3, { T := [0], r := 4 }), (5, { tip := { orc := .cells (T_api_Def.enc y50) } }), (8, { tip := { pc := some { ρ := [], n0 := 0, res := .agg (T_api_Proc.pvs y51), σ' := [], e := [] } }, r := 4 }), (9, { T := [1], r := 4 })] (by kernel_rfl) (allc (elemAt_of T_api_Def.enc_len hy50) (allc (C_proc_Goes p0 (⟨p1, 0, x34, p3, 0, 0, 0, 0, 0, 0, ([] : (List T_api_Alt))⟩ : T_api_Proc) y50.Entry y51 hy51) all0)) (norm ?_)
        obtain rfl := some_eq h
        exact At.ret fun a w hs => ret_ok hR (ρ := []) (gs := []) (by kernel_rfl) all0 (by kernel_rfl) rfl rfl a w hs _ (.inl rfl)
set_option maxRecDepth 100000 in
theorem C_proc_bare (p0 : T_api_Proc) (r : T_api_Proc) (h : F_proc_bare p0 = some r) : FnOK Tryz.prog 27 [.agg (T_api_Proc.pvs p0)] [] (.agg (T_api_Proc.pvs r)) [] [] := by
  rw [F_proc_bare] at h
  refine FnOK.intro Tryz.func27 rfl (by kernel_rfl) (by kernel_rfl) fun E gv R hR => ?_
  refine At.seq ?_
  refine At.rg [1, 2] [0, 1] [] (by kernel_rfl) all0 (norm ?_)
  refine At.seq ?_
  refine At.rg [1, 2, 3] [0, 1, 2] [] (by kernel_rfl) all0 (norm ?_)
  refine At.seqJ (S := Int × Int × Int × Int × Int × (List T_api_Alt)) (fun s => ⟨[(2, .ptr 0 0), (3, .ptr 1 0)], [.blk 30 [i64 0, i64 0, .d (.list true 0 []), i64 0, i64 0, i64 0, i64 0, i64 0, i64 0, i64 0, .d (.list true 0 [])], .blk 30 [i64 p0.Def, i64 p0.At, lv (eInt .i64) p0.Vars, i64 p0.Fuel, i64 p0.Mode, i64 s.1, i64 s.2.1, i64 s.2.2.1, i64 s.2.2.2.1, i64 s.2.2.2.2.1, lv T_api_Alt.enc s.2.2.2.2.2]]⟩) (fun s => F_proc_bare_J1 p0 s.1 s.2.1 s.2.2.1 s.2.2.2.1 s.2.2.2.2.1 s.2.2.2.2.2 = some r) ?_ ?_
  · refine At.seq ?_
    refine At.rg [1, 2, 3, 16] [0, 1, 2] [] (by kernel_rfl) all0 (norm ?_)
    refine At.block ?_
    refine At.seq ?_
    refine At.rg [1, 2, 3, 16, 17] [0, 1, 2] [] (by kernel_rfl) all0 (norm ?_)
    refine At.cond (p0.Mode == 1) (by kernel_rfl) (fun b11 => ?_) (fun b11 => ?_)
    · replace h := cond_t b11 h
      refine At.dg mixedOrd 0 [2, 3] [1, 2] [(0, { r := 3 }), (1, { T := [0], r := 3 }), (2, { r := 3 }), (3, { T := [0], r := 3 }), (4, { r := 3 }), (5, { T := [0], r := 3 }), (6, { r := 3 }), (7, { T := [2], r := 3 }), (8, { r := 3 }), (9, { T := [2], r := 3 }), (10, { r := 3 }), (11, { T := [2], r := 3 })] (by kernel_rfl) all0 (edq (l := [.loO 1]) (ks := [2, 3]) (ρ := [0, 1]) (st' := ⟨[(2, .ptr 0 0), (3, .ptr 1 0)], [.blk 30 [i64 0, i64 0, .d (.list true 0 []), i64 0, i64 0, i64 0, i64 0, i64 0, i64 0, i64 0, .d (.list true 0 [])], .blk 30 [i64 p0.Def, i64 p0.At, lv (eInt .i64) p0.Vars, i64 p0.Fuel, i64 p0.Mode, i64 p0.Chan, i64 p0.Val, i64 0, i64 0, i64 p0.Since, lv T_api_Alt.enc ([] : List T_api_Alt)]]⟩) (by kernel_rfl) (fun a w hs => ⟨(p0.Chan, p0.Val, 0, 0, p0.Since, ([] : List T_api_Alt)), h, hs⟩))
    · replace h := cond_f b11 h
      refine At.seq ?_
      refine At.rg [1, 2, 3, 16, 28] [0, 1, 2] [] (by kernel_rfl) all0 (norm ?_)
      refine At.cond (p0.Mode == 2) (by kernel_rfl) (fun b12 => ?_) (fun b12 => ?_)
      · replace h := cond_t b12 h
        refine At.draw_end mixedOrd 0 [2, 3] [1, 2] _ (st' := ⟨[(2, .ptr 0 0), (3, .ptr 1 0)], [.blk 30 [i64 0, i64 0, .d (.list true 0 []), i64 0, i64 0, i64 0, i64 0, i64 0, i64 0, i64 0, .d (.list true 0 [])], .blk 30 [i64 p0.Def, i64 p0.At, lv (eInt .i64) p0.Vars, i64 p0.Fuel, i64 p0.Mode, i64 p0.Chan, i64 0, i64 p0.Slot, i64 0, i64 p0.Since, .d (.list true 0 [])]]⟩) (tips := [(0, { r := 3 }), (1, { T := [0], r := 3 }), (2, { r := 3 }), (3, { T := [0], r := 3 }), (4, { r := 3 }), (5, { T := [0], r := 3 }), (6, { r := 3 }), (7, { T := [2], r := 3 }), (8, { r := 3 }), (9, { T := [2], r := 3 }), (10, { r := 3 }), (11, { T := [2], r := 3 })]) (by kernel_rfl) all0 (edq (l := [.loO 1]) (ks := [2, 3]) (ρ := [0, 1]) (st' := ⟨[(2, .ptr 0 0), (3, .ptr 1 0)], [.blk 30 [i64 0, i64 0, .d (.list true 0 []), i64 0, i64 0, i64 0, i64 0, i64 0, i64 0, i64 0, .d (.list true 0 [])], .blk 30 [i64 p0.Def, i64 p0.At, lv (eInt .i64) p0.Vars, i64 p0.Fuel, i64 p0.Mode, i64 p0.Chan, i64 0, i64 p0.Slot, i64 0, i64 p0.Since, lv T_api_Alt.enc ([] : List T_api_Alt)]]⟩) (by kernel_rfl) (fun a w hs => ⟨(p0.Chan, 0, p0.Slot, 0, p0.Since, ([] : List T_api_Alt)), h, hs⟩))
      · replace h := cond_f b12 h
        refine At.seq ?_
        refine At.region_end [1, 2, 3, 16, 39] [0, 1, 2] _ (st' := ⟨[(1, .ptr 0 0), (2, .ptr 1 0), (3, .ptr 2 0), (16, i64 p0.Mode), (39, bo (p0.Mode == 3))], [.blk 30 (T_api_Proc.pvs p0), .blk 30 [i64 0, i64 0, .d (.list true 0 []), i64 0, i64 0, i64 0, i64 0, i64 0, i64 0, i64 0, .d (.list true 0 [])], .blk 30 [i64 p0.Def, i64 p0.At, lv (eInt .i64) p0.Vars, i64 p0.Fuel, i64 p0.Mode, i64 0, i64 0, i64 0, i64 0, i64 0, .d (.list true 0 [])]]⟩) (tips := []) (by kernel_rfl) all0 (norm ?_)
        refine At.cond (p0.Mode == 3) (by kernel_rfl) (fun b13 => ?_) (fun b13 => ?_)
        · replace h := cond_t b13 h
          refine At.dg mixedOrd 0 [2, 3] [1, 2] [(0, { r := 3 }), (1, { T := [0], r := 3 }), (2, { r := 3 }), (3, { T := [0], r := 3 }), (4, { r := 3 }), (5, { T := [2], r := 3 }), (6, { r := 3 }), (7, { T := [2], r := 3 })] (by kernel_rfl) all0 (edq (l := []) (ks := [2, 3]) (ρ := [0, 1]) (st' := ⟨[(2, .ptr 0 0), (3, .ptr 1 0)], [.blk 30 [i64 0, i64 0, .d (.list true 0 []), i64 0, i64 0, i64 0, i64 0, i64 0, i64 0, i64 0, .d (.list true 0 [])], .blk 30 [i64 p0.Def, i64 p0.At, lv (eInt .i64) p0.Vars, i64 p0.Fuel, i64 p0.Mode, i64 0, i64 0, i64 0, i64 0, i64 p0.Since, lv T_api_Alt.enc p0.Alts]]⟩) (by kernel_rfl) (fun a w hs => ⟨(0, 0, 0, 0, p0.Since, p0.Alts), h, hs⟩))
        · replace h := cond_f b13 h
          refine At.seq ?_
          refine At.rg [1, 2, 3, 47] [0, 1, 2] [] (by kernel_rfl) all0 (norm ?_)
          refine At.cond (p0.Mode == 4) (by kernel_rfl) (fun b14 => ?_) (fun b14 => ?_)
          · replace h := cond_t b14 h
            refine At.rg [2, 3] [1, 2] [] (by kernel_rfl) all0 (edq (l := [.loO 1]) (ks := [2, 3]) (ρ := [0, 1]) (st' := ⟨[(2, .ptr 0 0), (3, .ptr 1 0)], [.blk 30 [i64 0, i64 0, .d (.list true 0 []), i64 0, i64 0, i64 0, i64 0, i64 0, i64 0, i64 0, .d (.list true 0 [])], .blk 30 [i64 p0.Def, i64 p0.At, lv (eInt .i64) p0.Vars, i64 p0.Fuel, i64 p0.Mode, i64 0, i64 0, i64 0, i64 p0.Until, i64 0, lv T_api_Alt.enc ([] : List T_api_Alt)]]⟩) (by kernel_rfl) (fun a w hs => ⟨(0, 0, 0, p0.Until, 0, ([] : List T_api_Alt)), h, hs⟩))
          · replace h := cond_f b14 h
            refine At.nr [2, 3] [1, 2] (by kernel_rfl) ?_
            refine At.skip (edq (l := [.loO 1]) (ks := [2, 3]) (ρ := [0, 1]) (st' := ⟨[(2, .ptr 0 0), (3, .ptr 1 0)], [.blk 30 [i64 0, i64 0, .d (.list true 0 []), i64 0, i64 0, i64 0, i64 0, i64 0, i64 0, i64 0, .d (.list true 0 [])], .blk 30 [i64 p0.Def, i64 p0.At, lv (eInt .i64) p0.Vars, i64 p0.Fuel, i64 p0.Mode, i64 0, i64 0, i64 0, i64 0, i64 0, lv T_api_Alt.enc ([] : List T_api_Alt)]]⟩) (by kernel_rfl) (fun a w hs => ⟨(0, 0, 0, 0, 0, ([] : List T_api_Alt)), h, hs⟩))
  · rintro ⟨x5, x6, x7, x8, x9, x10⟩ h
    replace h : F_proc_bare_J1 p0 x5 x6 x7 x8 x9 x10 = some r := h
    rw [F_proc_bare_J1] at h
    refine At.seq ?_
    refine At.rg [2] [0] [] (by kernel_rfl) all0 (norm ?_)
    obtain rfl := some_eq h
    exact At.ret fun a w hs => ret_ok hR (ρ := []) (gs := []) (by kernel_rfl) all0 (by kernel_rfl) rfl rfl a w hs _ (.inl rfl)
set_option maxRecDepth 100000 in
theorem C_slices_Equal_int_int (p0 : (List Int)) (p1 : (List Int)) (r : Bool) (h : F_slices_Equal_int_int p0 p1 = some r) : FnOK Tryz.prog 33 [lv (eInt .i64) p0, lv (eInt .i64) p1] [] (bo r) [] [] := by
  rw [F_slices_Equal_int_int] at h
  refine FnOK.intro Tryz.func33 rfl (by kernel_rfl) (by kernel_rfl) fun E gv R hR => ?_
  refine At.seq ?_
  refine At.rg [0, 1] [] [] (by kernel_rfl) all0 (norm ?_)
  refine At.seq ?_
  refine At.seq ?_
  refine At.rg [0, 1, 10] [] [] (by kernel_rfl) all0 (norm ?_)
  refine At.cond (((p0).length : Int) != ((p1).length : Int)) (by kernel_rfl) (fun b2 => ?_) (fun b2 => ?_)
  · replace h := cond_t b2 h
    refine At.seq ?_
    refine At.rg [4] [] [] (by kernel_rfl) all0 (norm ?_)
    obtain rfl := some_eq h
    exact At.ret fun a w hs => ret_ok hR (ρ := []) (gs := []) (by kernel_rfl) all0 (by kernel_rfl) rfl rfl a w hs _ (.inl rfl)
  · replace h := cond_f b2 h
    refine At.nr [0, 1] [] (by kernel_rfl) ?_
    refine At.skip (norm ?_)
    refine At.seq ?_
    refine At.seq ?_
    refine At.rg [0, 1, 12, 13] [] [] (by kernel_rfl) all0 (norm ?_)
    refine At.block ?_
    refine At.nar [0, 1, 12, 13] [] (st' := ⟨[(0, lv (eInt .i64) p0), (1, lv (eInt .i64) p1), (12, i64 ((p0).length : Int)), (13, i64 0)], []⟩) (by kernel_rfl) ?_
    refine At.loop (fun s : (Int) => F_slices_Equal_int_int_L1 p0 p1 s) (fun s : (Int) => ⟨[(0, lv (eInt .i64) p0), (1, lv (eInt .i64) p1), (12, i64 ((p0).length : Int)), (13, i64 s)], []⟩) r 0 h ?_
    intro x22 oo23 h f24
    replace h : F_slices_Equal_int_int_L1 p0 p1 x22 = some oo23 := h
    rw [F_slices_Equal_int_int_L1] at h
    refine At.seq ?_
    refine At.rg [0, 1, 12, 13, 14] [] [] (by kernel_rfl) all0 (norm ?_)
    refine At.seq ?_
    refine At.cond (decide (x22 < ((p0).length : Int))) (by kernel_rfl) (fun b26 => ?_) (fun b26 => ?_)
    · replace h := cond_t b26 h
      refine At.nr [0, 1, 12, 13] [] (by kernel_rfl) ?_
      refine At.skip (norm ?_)
      refine At.seq ?_
      refine At.block ?_
      refine At.seq ?_
      refine At.rg [0, 1, 5, 12, 13] [] [] (by kernel_rfl) all0 (norm ?_)
      refine At.seq ?_
      obtain ⟨y34, hy34, h⟩ := bind_some h
      obtain ⟨y35, hy35, h⟩ := bind_some h
      refine At.dg mixedOrd 0 [0, 1, 12, 13, 24] [] [(2, { tip := { orc := .cells ((eInt .i64) y34) } }), (6, { tip := { orc := .cells ((eInt .i64) y35) } })] (by kernel_rfl) (allc (elemAt_of (he_int .i64) hy34) (allc (elemAt_of (he_int .i64) hy35) all0)) (norm ?_)
      refine At.cond (y34 != y35) (by kernel_rfl) (fun b36 => ?_) (fun b36 => ?_)
      · replace h := cond_t b36 h
        refine At.seq ?_
        refine At.rg [4] [] [] (by kernel_rfl) all0 (norm ?_)
        obtain ⟨r37, h, e38⟩ := map_inr h
        rw [f24 _ e38] at h
        obtain rfl := some_eq h
        exact At.ret fun a w hs => ret_ok hR (ρ := []) (gs := []) (by kernel_rfl) all0 (by kernel_rfl) rfl rfl a w hs _ (.inl rfl)
      · replace h := cond_f b36 h
        refine At.nr [0, 1, 12, 13] [] (by kernel_rfl) ?_
        refine At.skip (norm ?_)
        refine At.region_end [0, 1, 12, 13] [] _ (st' := ⟨[(0, lv (eInt .i64) p0), (1, lv (eInt .i64) p1), (12, i64 ((p0).length : Int)), (13, i64 (w64 (x22 + 1)))], []⟩) (tips := []) (by kernel_rfl) all0 (fun a w hs => ⟨_, (some_eq h).symm, hs⟩)
    · replace h := cond_f b26 h
      refine At.nr [] [] (by kernel_rfl) ?_
      obtain ⟨r39, h, e40⟩ := map_inr h
      rw [f24 _ e40] at h
      refine At.exit (norm ?_)
      refine At.seq ?_
      refine At.rg [4] [] [] (by kernel_rfl) all0 (norm ?_)
      obtain rfl := some_eq h
      exact At.ret fun a w hs => ret_ok hR (ρ := []) (gs := []) (by kernel_rfl) all0 (by kernel_rfl) rfl rfl a w hs _ (.inl rfl)
set_option maxRecDepth 100000 in
theorem C_slices_Equal_retrace_api_Alt_retrace_api_Alt (p0 : (List T_api_Alt)) (p1 : (List T_api_Alt)) (r : Bool) (h : F_slices_Equal_retrace_api_Alt_retrace_api_Alt p0 p1 = some r) : FnOK Tryz.prog 34 [lv T_api_Alt.enc p0, lv T_api_Alt.enc p1] [] (bo r) [] [] := by
  rw [F_slices_Equal_retrace_api_Alt_retrace_api_Alt] at h
  refine FnOK.intro Tryz.func34 rfl (by kernel_rfl) (by kernel_rfl) fun E gv R hR => ?_
  refine At.seq ?_
  refine At.rg [0, 1] [] [] (by kernel_rfl) all0 (norm ?_)
  refine At.seq ?_
  refine At.seq ?_
  refine At.rg [0, 1, 10] [] [] (by kernel_rfl) all0 (norm ?_)
  refine At.cond (((p0).length : Int) != ((p1).length : Int)) (by kernel_rfl) (fun b2 => ?_) (fun b2 => ?_)
  · replace h := cond_t b2 h
    refine At.seq ?_
    refine At.rg [4] [] [] (by kernel_rfl) all0 (norm ?_)
    obtain rfl := some_eq h
    exact At.ret fun a w hs => ret_ok hR (ρ := []) (gs := []) (by kernel_rfl) all0 (by kernel_rfl) rfl rfl a w hs _ (.inl rfl)
  · replace h := cond_f b2 h
    refine At.nr [0, 1] [] (by kernel_rfl) ?_
    refine At.skip (norm ?_)
    refine At.seq ?_
    refine At.seq ?_
    refine At.rg [0, 1, 12, 13] [] [] (by kernel_rfl) all0 (norm ?_)
    refine At.block ?_
    refine At.nar [0, 1, 12, 13] [] (st' := ⟨[(0, lv T_api_Alt.enc p0), (1, lv T_api_Alt.enc p1), (12, i64 ((p0).length : Int)), (13, i64 0)], []⟩) (by kernel_rfl) ?_
    refine At.loop (fun s : (Int) => F_slices_Equal_retrace_api_Alt_retrace_api_Alt_L1 p0 p1 s) (fun s : (Int) => ⟨[(0, lv T_api_Alt.enc p0), (1, lv T_api_Alt.enc p1), (12, i64 ((p0).length : Int)), (13, i64 s)], []⟩) r 0 h ?_
    intro x22 oo23 h f24
    replace h : F_slices_Equal_retrace_api_Alt_retrace_api_Alt_L1 p0 p1 x22 = some oo23 := h
    rw [F_slices_Equal_retrace_api_Alt_retrace_api_Alt_L1] at h
    refine At.seq ?_
    refine At.rg [0, 1, 12, 13, 14] [] [] (by kernel_rfl) all0 (norm ?_)
    refine At.seq ?_
    refine At.cond (decide (x22 < ((p0).length : Int))) (by kernel_rfl) (fun b26 => ?_) (fun b26 => ?_)
    · replace h := cond_t b26 h
      refine At.nr [0, 1, 12, 13] [] (by kernel_rfl) ?_
      refine At.skip (norm ?_)
      refine At.seq ?_
      refine At.block ?_
      refine At.seq ?_
      refine At.rg [0, 1, 5, 12, 13] [] [] (by kernel_rfl) all0 (norm ?_)
      refine At.seq ?_
      obtain ⟨y34, hy34, h⟩ := bind_some h
      obtain ⟨y35, hy35, h⟩ := bind_some h
      refine At.dg mixedOrd 0 [0, 1, 12, 13, 24] [] [(2, { tip := { orc := .cells (T_api_Alt.enc y34) } }), (6, { tip := { orc := .cells (T_api_Alt.enc y35) } })] (by kernel_rfl) (allc (elemAt_of T_api_Alt.enc_len hy34) (allc (elemAt_of T_api_Alt.enc_len hy35) all0)) (norm ?_)
      refine At.cond (!((y34.Kind == y35.Kind) && ((y34.Chan == y35.Chan) && ((y34.Val == y35.Val) && ((y34.Slot == y35.Slot) && ((y34.Goto == y35.Goto) && true)))))) (by kernel_rfl) (fun b36 => ?_) (fun b36 => ?_)
      · replace h := cond_t b36 h
        refine At.seq ?_
        refine At.rg [4] [] [] (by kernel_rfl) all0 (norm ?_)
        obtain ⟨r37, h, e38⟩ := map_inr h
        rw [f24 _ e38] at h
        obtain rfl := some_eq h
        exact At.ret fun a w hs => ret_ok hR (ρ := []) (gs := []) (by kernel_rfl) all0 (by kernel_rfl) rfl rfl a w hs _ (.inl rfl)
      · replace h := cond_f b36 h
        refine At.nr [0, 1, 12, 13] [] (by kernel_rfl) ?_
        refine At.skip (norm ?_)
        refine At.region_end [0, 1, 12, 13] [] _ (st' := ⟨[(0, lv T_api_Alt.enc p0), (1, lv T_api_Alt.enc p1), (12, i64 ((p0).length : Int)), (13, i64 (w64 (x22 + 1)))], []⟩) (tips := []) (by kernel_rfl) all0 (fun a w hs => ⟨_, (some_eq h).symm, hs⟩)
    · replace h := cond_f b26 h
      refine At.nr [] [] (by kernel_rfl) ?_
      obtain ⟨r39, h, e40⟩ := map_inr h
      rw [f24 _ e40] at h
      refine At.exit (norm ?_)
      refine At.seq ?_
      refine At.rg [4] [] [] (by kernel_rfl) all0 (norm ?_)
      obtain rfl := some_eq h
      exact At.ret fun a w hs => ret_ok hR (ρ := []) (gs := []) (by kernel_rfl) all0 (by kernel_rfl) rfl rfl a w hs _ (.inl rfl)
set_option maxRecDepth 100000 in
theorem C_proc_Same (p0 : T_api_Proc) (p1 : T_api_Proc) (r : Bool) (h : F_proc_Same p0 p1 = some r) : FnOK Tryz.prog 16 [.agg (T_api_Proc.pvs p0), .agg (T_api_Proc.pvs p1)] [] (bo r) [] [] := by
  rw [F_proc_Same] at h
  refine FnOK.intro Tryz.func16 rfl (by kernel_rfl) (by kernel_rfl) fun E gv R hR => ?_
  refine At.seq ?_
  refine At.rg [2, 3] [0, 1] [] (by kernel_rfl) all0 (norm ?_)
  refine At.seqJ (S := Bool) (fun s => ⟨[(4, bo s)], []⟩) (fun s => F_proc_Same_J1 s = some r) ?_ ?_
  · rcases tf (p0.Def == p1.Def) with b14 | b14
    · replace h := cond_t b14 h
      rcases tf (p0.At == p1.At) with b15 | b15
      · replace h := cond_t b15 h
        obtain ⟨y16, hy16, h⟩ := bind_some h
        rcases tf y16 with b17 | b17
        · replace h := cond_t b17 h
          rcases tf (p0.Fuel == p1.Fuel) with b18 | b18
          · replace h := cond_t b18 h
            rcases tf (p0.Mode == p1.Mode) with b19 | b19
            · replace h := cond_t b19 h
              rcases tf (p0.Chan == p1.Chan) with b20 | b20
              · replace h := cond_t b20 h
                rcases tf (p0.Val == p1.Val) with b21 | b21
                · replace h := cond_t b21 h
                  rcases tf (p0.Slot == p1.Slot) with b22 | b22
                  · replace h := cond_t b22 h
                    rcases tf (p0.Until == p1.Until) with b23 | b23
                    · replace h := cond_t b23 h
                      rcases tf (p0.Since == p1.Since) with b24 | b24
                      · replace h := cond_t b24 h
                        obtain ⟨y25, hy25, h⟩ := bind_some h
                        refine At.rg [4] [] [(5, { orc := .val (.bool true) }), (12, { orc := .val (.bool true) }), (17, { pc := some { ρ := [], n0 := 0, res := bo y16, σ' := [], e := [] } }), (19, { orc := .val (.bool true) }), (26, { orc := .val (.bool true) }), (33, { orc := .val (.bool true) }), (40, { orc := .val (.bool true) }), (47, { orc := .val (.bool true) }), (54, { orc := .val (.bool true) }), (61, { orc := .val (.bool true) }), (68, { orc := .val (.bool true) }), (73, { pc := some { ρ := [], n0 := 0, res := bo y25, σ' := [], e := [] } })] (by kernel_rfl) (allc (congrArg D.bool b14) (allc (congrArg D.bool b15) (allc (C_slices_Equal_int_int p0.Vars p1.Vars y16 hy16) (allc (congrArg D.bool b17) (allc (congrArg D.bool b18) (allc (congrArg D.bool b19) (allc (congrArg D.bool b20) (allc (congrArg D.bool b21) (allc (congrArg D.bool b22) (allc (congrArg D.bool b23) (allc (congrArg D.bool b24) (allc (C_slices_Equal_retrace_api_Alt_retrace_api_Alt p0.Alts p1.Alts y25 hy25) all0)))))))))))) (edq (l := []) (ks := [4]) (ρ := []) (st' := ⟨[(4, bo y25)], []⟩) (by kernel_rfl) (fun a w hs => ⟨y25, h, hs⟩))
                      · replace h := cond_f b24 h
                        refine At.rg [4] [] [(5, { orc := .val (.bool true) }), (12, { orc := .val (.bool true) }), (17, { pc := some { ρ := [], n0 := 0, res := bo y16, σ' := [], e := [] } }), (19, { orc := .val (.bool true) }), (26, { orc := .val (.bool true) }), (33, { orc := .val (.bool true) }), (40, { orc := .val (.bool true) }), (47, { orc := .val (.bool true) }), (54, { orc := .val (.bool true) }), (61, { orc := .val (.bool true) }), (68, { orc := .val (.bool false) })] (by kernel_rfl) (allc (congrArg D.bool b14) (allc (congrArg D.bool b15) (allc (C_slices_Equal_int_int p0.Vars p1.Vars y16 hy16) (allc (congrArg D.bool b17) (allc (congrArg D.bool b18) (allc (congrArg D.bool b19) (allc (congrArg D.bool b20) (allc (congrArg D.bool b21) (allc (congrArg D.bool b22) (allc (congrArg D.bool b23) (allc (congrArg D.bool b24) all0))))))))))) (edq (l := []) (ks := [4]) (ρ := []) (st' := ⟨[(4, bo false)], []⟩) (by kernel_rfl) (fun a w hs => ⟨false, h, hs⟩))
                    · replace h := cond_f b23 h
                      refine At.rg [4] [] [(5, { orc := .val (.bool true) }), (12, { orc := .val (.bool true) }), (17, { pc := some { ρ := [], n0 := 0, res := bo y16, σ' := [], e := [] } }), (19, { orc := .val (.bool true) }), (26, { orc := .val (.bool true) }), (33, { orc := .val (.bool true) }), (40, { orc := .val (.bool true) }), (47, { orc := .val (.bool true) }), (54, { orc := .val (.bool true) }), (61, { orc := .val (.bool false) })] (by kernel_rfl) (allc (congrArg D.bool b14) (allc (congrArg D.bool b15) (allc (C_slices_Equal_int_int p0.Vars p1.Vars y16 hy16) (allc (congrArg D.bool b17) (allc (congrArg D.bool b18) (allc (congrArg D.bool b19) (allc (congrArg D.bool b20) (allc (congrArg D.bool b21) (allc (congrArg D.bool b22) (allc (congrArg D.bool b23) all0)))))))))) (edq (l := []) (ks := [4]) (ρ := []) (st' := ⟨[(4, bo false)], []⟩) (by kernel_rfl) (fun a w hs => ⟨false, h, hs⟩))
                  · replace h := cond_f b22 h
                    refine At.rg [4] [] [(5, { orc := .val (.bool true) }), (12, { orc := .val (.bool true) }), (17, { pc := some { ρ := [], n0 := 0, res := bo y16, σ' := [], e := [] } }), (19, { orc := .val (.bool true) }), (26, { orc := .val (.bool true) }), (33, { orc := .val (.bool true) }), (40, { orc := .val (.bool true) }), (47, { orc := .val (.bool true) }), (54, { orc := .val (.bool false) })] (by kernel_rfl) (allc (congrArg D.bool b14) (allc (congrArg D.bool b15) (allc (C_slices_Equal_int_int p0.Vars p1.Vars y16 hy16) (allc (congrArg D.bool b17) (allc (congrArg D.bool b18) (allc (congrArg D.bool b19) (allc (congrArg D.bool b20) (allc (congrArg D.bool b21) (allc (congrArg D.bool b22) all0))))))))) (edq (l := []) (ks := [4]) (ρ := []) (st' := ⟨[(4, bo false)], []⟩) (by kernel_rfl) (fun a w hs => ⟨false, h, hs⟩))
                · replace h := cond_f b21 h
                  refine At.rg [4] [] [(5, { orc := .val (.bool true) }), (12, { orc := .val (.bool true) }), (17, { pc := some { ρ := [], n0 := 0, res := bo y16, σ' := [], e := [] } }), (19, { orc := .val (.bool true) }), (26, { orc := .val (.bool true) }), (33, { orc := .val (.bool true) }), (40, { orc := .val (.bool true) }), (47, { orc := .val (.bool false) })] (by kernel_rfl) (allc (congrArg D.bool b14) (allc (congrArg D.bool b15) (allc (C_slices_Equal_int_int p0.Vars p1.Vars y16 hy16) (allc (congrArg D.bool b17) (allc (congrArg D.bool b18) (allc (congrArg D.bool b19) (allc (congrArg D.bool b20) (allc (congrArg D.bool b21) all0)))))))) (edq (l := []) (ks := [4]) (ρ := []) (st' := ⟨[(4, bo false)], []⟩) (by kernel_rfl) (fun a w hs => ⟨false, h, hs⟩))
              · replace h := cond_f b20 h
                refine At.rg [4] [] [(5, { orc := .val (.bool true) }), (12, { orc := .val (.bool true) }), (17, { pc := some { ρ := [], n0 := 0, res := bo y16, σ' := [], e := [] } }), (19, { orc := .val (.bool true) }), (26, { orc := .val (.bool true) }), (33, { orc := .val (.bool true) }), (40, { orc := .val (.bool false) })] (by kernel_rfl) (allc (congrArg D.bool b14) (allc (congrArg D.bool b15) (allc (C_slices_Equal_int_int p0.Vars p1.Vars y16 hy16) (allc (congrArg D.bool b17) (allc (congrArg D.bool b18) (allc (congrArg D.bool b19) (allc (congrArg D.bool b20) all0))))))) (edq (l := []) (ks := [4]) (ρ := []) (st' := ⟨[(4, bo false)], []⟩) (by kernel_rfl) (fun a w hs => ⟨false, h, hs⟩))
            · replace h := cond_f b19 h
              refine At.rg [4] [] [(5, { orc := .val (.bool true) }), (12, { orc := .val (.bool true) }), (17, { pc := some { ρ := [], n0 := 0, res := bo y16, σ' := [], e := [] } }), (19, { orc := .val (.bool true) }), (26, { orc := .val (.bool true) }), (33, { orc := .val (.bool false) })] (by kernel_rfl) (allc (congrArg D.bool b14) (allc (congrArg D.bool b15) (allc (C_slices_Equal_int_int p0.Vars p1.Vars y16 hy16) (allc (congrArg D.bool b17) (allc (congrArg D.bool b18) (allc (congrArg D.bool b19) all0)))))) (edq (l := []) (ks := [4]) (ρ := []) (st' := ⟨[(4, bo false)], []⟩) (by kernel_rfl) (fun a w hs => ⟨false, h, hs⟩))
          · replace h := cond_f b18 h
            refine At.rg [4] [] [(5, { orc := .val (.bool true) }), (12, { orc := .val (.bool true) }), (17, { pc := some { ρ := [], n0 := 0, res := bo y16, σ' := [], e := [] } }), (19, { orc := .val (.bool true) }), (26, { orc := .val (.bool false) })] (by kernel_rfl) (allc (congrArg D.bool b14) (allc (congrArg D.bool b15) (allc (C_slices_Equal_int_int p0.Vars p1.Vars y16 hy16) (allc (congrArg D.bool b17) (allc (congrArg D.bool b18) all0))))) (edq (l := []) (ks := [4]) (ρ := []) (st' := ⟨[(4, bo false)], []⟩) (by kernel_rfl) (fun a w hs => ⟨false, h, hs⟩))
        · replace h := cond_f b17 h
          refine At.rg [4] [] [(5, { orc := .val (.bool true) }), (12, { orc := .val (.bool true) }), (17, { pc := some { ρ := [], n0 := 0, res := bo y16, σ' := [], e := [] } }), (19, { orc := .val (.bool false) })] (by kernel_rfl) (allc (congrArg D.bool b14) (allc (congrArg D.bool b15) (allc (C_slices_Equal_int_int p0.Vars p1.Vars y16 hy16) (allc (congrArg D.bool b17) all0)))) (edq (l := []) (ks := [4]) (ρ := []) (st' := ⟨[(4, bo false)], []⟩) (by kernel_rfl) (fun a w hs => ⟨false, h, hs⟩))
      · replace h := cond_f b15 h
        refine At.rg [4] [] [(5, { orc := .val (.bool true) }), (12, { orc := .val (.bool false) })] (by kernel_rfl) (allc (congrArg D.bool b14) (allc (congrArg D.bool b15) all0)) (edq (l := []) (ks := [4]) (ρ := []) (st' := ⟨[(4, bo false)], []⟩) (by kernel_rfl) (fun a w hs => ⟨false, h, hs⟩))
    · replace h := cond_f b14 h
      refine At.rg [4] [] [(5, { orc := .val (.bool false) })] (by kernel_rfl) (allc (congrArg D.bool b14) all0) (edq (l := []) (ks := [4]) (ρ := []) (st' := ⟨[(4, bo false)], []⟩) (by kernel_rfl) (fun a w hs => ⟨false, h, hs⟩))
  · intro x13 h
    replace h : F_proc_Same_J1 x13 = some r := h
    rw [F_proc_Same_J1] at h
    obtain rfl := some_eq h
    exact At.ret fun a w hs => ret_ok hR (ρ := []) (gs := []) (by kernel_rfl) all0 (by kernel_rfl) rfl rfl a w hs _ (.inl rfl)
set_option maxRecDepth 100000 in
theorem C_proc_looks (p0 : T_api_Code) (p1 : T_api_Proc) (r : T_api_Code × T_api_Proc) (h : F_proc_looks p0 p1 = some r) : FnOK Tryz.prog 28 [.agg (T_api_Code.pvs p0), .agg (T_api_Proc.pvs p1)] [] (.agg [.fn (.func 45) [] [.ptr 0 0, .ptr 1 0], .fn (.func 51) [] [.ptr 2 0, .ptr 1 0, .ptr 3 0], .fn (.func 52) [] [.ptr 2 0, .ptr 1 0, .ptr 3 0, .ptr 4 0], .fn (.func 53) [] [.ptr 5 0, .ptr 1 0, .ptr 6 0], .fn (.func 56) [] [.ptr 2 0, .ptr 1 0], .fn (.func 57) [] [.ptr 1 0], .fn (.func 45) [] [.ptr 0 0, .ptr 1 0]]) [.blk 26 (T_api_Code.pvs r.1), .blk 30 (T_api_Proc.pvs r.2), .blk 86 [.fn (.func 47) [] [.ptr 0 0, .ptr 1 0]], .blk 86 [.fn (.func 48) [] [.ptr 0 0]], .blk 86 [.fn (.func 49) [] [.ptr 1 0]], .blk 33 [.fn (.func 45) [] [.ptr 0 0, .ptr 1 0]], .blk 87 [.fn (.func 50) [] [.ptr 2 0, .ptr 3 0, .ptr 4 0]]] [] := by
  rw [F_proc_looks] at h
  refine FnOK.intro Tryz.func28 rfl (by kernel_rfl) (by kernel_rfl) fun E gv R hR => ?_
  refine At.seq ?_
  refine At.rg [2, 3, 4] [0, 1, 2] [] (by kernel_rfl) all0 (norm ?_)
  refine At.seq ?_
  refine At.rg [2, 3, 4, 5] [0, 1, 2, 3] [] (by kernel_rfl) all0 (norm ?_)
  refine At.seq ?_
  refine At.rg [2, 3, 4, 5, 6] [0, 1, 2, 3, 4] [] (by kernel_rfl) all0 (norm ?_)
  refine At.seq ?_
  refine At.rg [3, 4, 5, 6, 7] [1, 2, 3, 0, 4, 5] [] (by kernel_rfl) all0 (norm ?_)
  refine At.seq ?_
  refine At.rg [3, 4, 5, 6, 7, 8] [0, 1, 2, 3, 4, 5, 6] [] (by kernel_rfl) all0 (norm ?_)
  refine At.seq ?_
  refine At.region_end [3, 4, 5, 6, 7, 8, 9] [0, 1, 2, 3, 4, 5, 6, 7] _ (st' := ⟨[(3, .ptr 0 0), (4, .ptr 1 0), (5, .ptr 2 0), (6, .ptr 4 0), (7, .ptr 5 0), (8, .ptr 6 0), (9, .ptr 7 0)], [.blk 30 (T_api_Proc.pvs p1), .blk 58 [.d .nilF, .d .nilF, .d .nilF, .d .nilF, .d .nilF, .d .nilF, .d .nilF], .blk 33 [.fn (.func 45) [] [.ptr 3 0, .ptr 0 0]], .blk 26 (T_api_Code.pvs p0), .blk 86 [.fn (.func 47) [] [.ptr 3 0, .ptr 0 0]], .blk 86 [.fn (.func 48) [] [.ptr 3 0]], .blk 86 [.fn (.func 49) [] [.ptr 0 0]], .blk 87 [.fn (.func 50) [] [.ptr 4 0, .ptr 5 0, .ptr 6 0]]]⟩) (tips := []) (by kernel_rfl) all0 (norm ?_)
  refine At.seq ?_
  refine At.rg [4] [1, 3, 0, 4, 5, 6, 2, 7] [] (by kernel_rfl) all0 (norm ?_)
  obtain rfl := some_eq h
  exact At.ret fun a w hs => ret_ok hR (ρ := [1, 2, 3, 4, 5, 6, 7]) (gs := []) (by kernel_rfl) all0 (by kernel_rfl) rfl rfl a w hs _ (.inl rfl)
set_option maxRecDepth 100000 in
theorem C_slices_Backward_retrace_api_Def_retrace_api_Def (p0 : (List T_api_Def)) (r : (List T_api_Def)) (h : F_slices_Backward_retrace_api_Def_retrace_api_Def p0 = some r) : FnOK Tryz.prog 97 [lv T_api_Def.enc p0] [] (.fn (.func 119) [] [.ptr 0 0]) [.blk 23 [lv T_api_Def.enc r]] [] := by
  rw [F_slices_Backward_retrace_api_Def_retrace_api_Def] at h
  refine FnOK.intro Tryz.func97 rfl (by kernel_rfl) (by kernel_rfl) fun E gv R hR => ?_
  refine At.seq ?_
  refine At.rg [1] [0] [] (by kernel_rfl) all0 (norm ?_)
  refine At.seq ?_
  refine At.rg [2] [0] [] (by kernel_rfl) all0 (norm ?_)
  obtain rfl := some_eq h
  exact At.ret fun a w hs => ret_ok hR (ρ := [0]) (gs := []) (by kernel_rfl) all0 (by kernel_rfl) rfl rfl a w hs _ (.inl rfl)
set_option maxRecDepth 100000 in
theorem C_R_code_Routine_0 (p0 : Int) (p1 : T_api_Def) (o1_0 : Int) (o2_0 : Int) (r : (Int) ⊕ (Unit)) (h : F_R_code_Routine_0 p0 p1 o1_0 o2_0 = some r) : RdOK Tryz.prog 0 [i64 p0, .agg (T_api_Def.pvs p1)] [.loop #[19, 20] as_code_Routine_0 bd_code_Routine_0 26 [3, 4] [.ptr 1 0, .ptr 2 0] .ready none, .blk 3 [i64 o1_0], .blk 3 [i64 o2_0]] ((Sum.elim (fun r => bo false) (fun r => bo true)) r) ((Sum.elim (fun r => [.loop #[19, 20] as_code_Routine_0 bd_code_Routine_0 26 [3, 4] [.ptr 1 0, .ptr 2 0] .done (some .ret), .blk 3 [i64 o1_0], .blk 3 [i64 r]]) (fun r => [.loop #[19, 20] as_code_Routine_0 bd_code_Routine_0 26 [3, 4] [.ptr 1 0, .ptr 2 0] .ready none, .blk 3 [i64 o1_0], .blk 3 [i64 o2_0]])) r) [1, 3, 5] := by
  rw [F_R_code_Routine_0] at h
  refine RdOK.intro (i := 0) rfl (by kernel_rfl) fun E gv l R hR => ?_
  refine At.eqv (st2 := ⟨[(19, i64 p0), (20, .agg (T_api_Def.pvs p1)), (3, .ptr 1 0), (4, .ptr 2 0)], [.loop #[19, 20] as_code_Routine_0 bd_code_Routine_0 26 [3, 4] [.ptr 1 0, .ptr 2 0] .ready none, .blk 3 [i64 o1_0], .blk 3 [i64 o2_0], .ghost (gv 0) (.ptr 0 0), .ghost (gv 1) (.ptr 1 0), .ghost (gv 2) (.ptr 2 0), .ghost (yieldV l) (.yld 0)]⟩) rfl ?_
  refine At.seq ?_
  refine At.region_end [3, 4, 5, 20] [0, 1, 2, 3, 4, 5, 6] _ (st' := ⟨[(3, .ptr 1 0), (4, .ptr 2 0), (5, i64 p0), (20, .agg (T_api_Def.pvs p1))], [.loop #[19, 20] as_code_Routine_0 bd_code_Routine_0 26 [3, 4] [.ptr 1 0, .ptr 2 0] .ready none, .blk 3 [i64 o1_0], .blk 3 [i64 o2_0], .ghost (gv 0) (.ptr 0 0), .ghost (gv 1) (.ptr 1 0), .ghost (gv 2) (.ptr 2 0), .ghost (yieldV l) (.yld 0)]⟩) (tips := []) (by kernel_rfl) all0 (norm ?_)
  refine At.region_end [3, 4, 5, 6] [0, 1, 2, 3, 4, 5, 6, 7] _ (st' := ⟨[(3, .ptr 1 0), (4, .ptr 2 0), (5, i64 p0), (6, .ptr 7 0)], [.loop #[19, 20] as_code_Routine_0 bd_code_Routine_0 26 [3, 4] [.ptr 1 0, .ptr 2 0] .ready none, .blk 3 [i64 o1_0], .blk 3 [i64 o2_0], .ghost (gv 0) (.ptr 0 0), .ghost (gv 1) (.ptr 1 0), .ghost (gv 2) (.ptr 2 0), .ghost (yieldV l) (.yld 0), .blk 57 (T_api_Def.pvs p1)]⟩) (tips := []) (by kernel_rfl) all0 (begin_ok (i := 0) (k := 6) (st' := ⟨[(3, .ptr 1 0), (4, .ptr 2 0), (5, i64 p0), (6, .ptr 7 0)], [.loop #[19, 20] as_code_Routine_0 bd_code_Routine_0 26 [3, 4] [.ptr 1 0, .ptr 2 0] .busy none, .blk 3 [i64 o1_0], .blk 3 [i64 o2_0], .ghost (gv 0) (.ptr 0 0), .ghost (gv 1) (.ptr 1 0), .ghost (gv 2) (.ptr 2 0), .ghost (yieldV l) (.yld 0), .blk 57 (T_api_Def.pvs p1)]⟩) (by kernel_rfl) rfl ?_)
  refine At.block ?_
  refine At.seq ?_
  refine At.region_end [4, 5, 24] [0, 1, 2, 3, 4, 5, 6] _ (st' := ⟨[(4, .ptr 2 0), (5, i64 p0), (24, bo (decide (p1.Entry ≤ o1_0)))], [.loop #[19, 20] as_code_Routine_0 bd_code_Routine_0 26 [3, 4] [.ptr 1 0, .ptr 2 0] .busy none, .blk 3 [i64 o1_0], .blk 3 [i64 o2_0], .ghost (gv 0) (.ptr 0 0), .ghost (gv 1) (.ptr 1 0), .ghost (gv 2) (.ptr 2 0), .ghost (yieldV l) (.yld 0)]⟩) (tips := []) (by kernel_rfl) all0 (norm ?_)
  refine At.cond (decide (p1.Entry ≤ o1_0)) (by kernel_rfl) (fun b1 => ?_) (fun b1 => ?_)
  · replace h := cond_t b1 h
    refine At.seq ?_
    refine At.region_end [] [0, 1, 2, 3, 4, 5, 6] _ (st' := ⟨[], [.loop #[19, 20] as_code_Routine_0 bd_code_Routine_0 26 [3, 4] [.ptr 1 0, .ptr 2 0] .busy none, .blk 3 [i64 o1_0], .blk 3 [i64 p0], .ghost (gv 0) (.ptr 0 0), .ghost (gv 1) (.ptr 1 0), .ghost (gv 2) (.ptr 2 0), .ghost (yieldV l) (.yld 0)]⟩) (tips := []) (by kernel_rfl) all0 (norm ?_)
    obtain rfl := some_eq h
    exact At.ret (round_fin hR (i := 0) (k := 6) (ρ := [0, 1, 2]) (jump := (some .ret)) (gs := [.ghost (gv 0) (.ptr 0 0), .ghost (gv 1) (.ptr 1 0), .ghost (gv 2) (.ptr 2 0)]) (by kernel_rfl) rfl (by kernel_rfl) rfl rfl rfl)
  · replace h := cond_f b1 h
    refine At.nar [] [0, 1, 2, 3, 4, 5, 6] (st' := ⟨[], [.loop #[19, 20] as_code_Routine_0 bd_code_Routine_0 26 [3, 4] [.ptr 1 0, .ptr 2 0] .busy none, .blk 3 [i64 o1_0], .blk 3 [i64 o2_0], .ghost (gv 0) (.ptr 0 0), .ghost (gv 1) (.ptr 1 0), .ghost (gv 2) (.ptr 2 0), .ghost (yieldV l) (.yld 0)]⟩) (by kernel_rfl) ?_
    obtain rfl := some_eq h
    refine At.skip (round_fin hR (i := 0) (k := 6) (ρ := [0, 1, 2]) (jump := none) (gs := [.ghost (gv 0) (.ptr 0 0), .ghost (gv 1) (.ptr 1 0), .ghost (gv 2) (.ptr 2 0)]) (by kernel_rfl) rfl (by kernel_rfl) rfl rfl rfl)
set_option maxRecDepth 100000 in
theorem C_slices_Backward_retrace_api_Def_retrace_api_Def_1 (o1_0 : Int) (o2_0 : Int) (o3_0 : (List T_api_Def)) (r : (Int) ⊕ (Unit)) (h : F_slices_Backward_retrace_api_Def_retrace_api_Def_1 o1_0 o2_0 o3_0 = some r) : FnOK Tryz.prog 119 [.yld 0, .ptr 3 0] [.loop #[19, 20] as_code_Routine_0 bd_code_Routine_0 26 [3, 4] [.ptr 1 0, .ptr 2 0] .ready none, .blk 3 [i64 o1_0], .blk 3 [i64 o2_0], .blk 23 [lv T_api_Def.enc o3_0]] ((Sum.elim (fun r => .tup []) (fun r => .tup [])) r) ((Sum.elim (fun r => [.loop #[19, 20] as_code_Routine_0 bd_code_Routine_0 26 [3, 4] [.ptr 1 0, .ptr 2 0] .done (some .ret), .blk 3 [i64 o1_0], .blk 3 [i64 r], .blk 23 [lv T_api_Def.enc o3_0]]) (fun r => [.loop #[19, 20] as_code_Routine_0 bd_code_Routine_0 26 [3, 4] [.ptr 1 0, .ptr 2 0] .ready none, .blk 3 [i64 o1_0], .blk 3 [i64 o2_0], .blk 23 [lv T_api_Def.enc o3_0]])) r) [1, 3, 5, 7] := by
  rw [F_slices_Backward_retrace_api_Def_retrace_api_Def_1] at h
  refine FnOK.intro Tryz.func119 rfl (by kernel_rfl) (by kernel_rfl) fun E gv R hR => ?_
  refine At.seq ?_
  refine At.rg [0, 1, 3] [0, 1, 2, 3, 4, 5, 6, 7] [] (by kernel_rfl) all0 (norm ?_)
  refine At.block ?_
  refine At.nar [0, 1, 3] [0, 1, 2, 3, 4, 5, 6, 7] (st' := ⟨[(0, .yld 0), (1, .ptr 3 0), (3, i64 (w64 (((o3_0).length : Int) - 1)))], [.loop #[19, 20] as_code_Routine_0 bd_code_Routine_0 26 [3, 4] [.ptr 1 0, .ptr 2 0] .ready none, .blk 3 [i64 o1_0], .blk 3 [i64 o2_0], .blk 23 [lv T_api_Def.enc o3_0], .ghost (gv 0) (.ptr 0 0), .ghost (gv 1) (.ptr 1 0), .ghost (gv 2) (.ptr 2 0), .ghost (gv 3) (.ptr 3 0)]⟩) (by kernel_rfl) ?_
  refine At.loop (fun s : (Int) => F_slices_Backward_retrace_api_Def_retrace_api_Def_1_L3 o1_0 o2_0 o3_0 s) (fun s : (Int) => ⟨[(0, .yld 0), (1, .ptr 3 0), (3, i64 s)], [.loop #[19, 20] as_code_Routine_0 bd_code_Routine_0 26 [3, 4] [.ptr 1 0, .ptr 2 0] .ready none, .blk 3 [i64 o1_0], .blk 3 [i64 o2_0], .blk 23 [lv T_api_Def.enc o3_0], .ghost (gv 0) (.ptr 0 0), .ghost (gv 1) (.ptr 1 0), .ghost (gv 2) (.ptr 2 0), .ghost (gv 3) (.ptr 3 0)]⟩) r (w64 (((o3_0).length : Int) - 1)) h ?_
  intro x1 oo2 h f3
  replace h : F_slices_Backward_retrace_api_Def_retrace_api_Def_1_L3 o1_0 o2_0 o3_0 x1 = some oo2 := h
  rw [F_slices_Backward_retrace_api_Def_retrace_api_Def_1_L3] at h
  refine At.seq ?_
  refine At.seq ?_
  refine At.rg [0, 1, 3, 8] [0, 1, 2, 3, 4, 5, 6, 7] [] (by kernel_rfl) all0 (norm ?_)
  refine At.cond (decide (0 ≤ x1)) (by kernel_rfl) (fun b5 => ?_) (fun b5 => ?_)
  · replace h := cond_t b5 h
    refine At.nr [0, 1, 3] [0, 1, 2, 3, 4, 5, 6, 7] (by kernel_rfl) ?_
    refine At.skip (norm ?_)
    refine At.seq ?_
    refine At.block ?_
    refine At.seqJ (S := (Int) ⊕ (Unit)) (Sum.elim (fun s => ⟨[(0, .yld 0), (1, .ptr 3 0), (3, i64 x1), (18, bo true)], [.loop #[19, 20] as_code_Routine_0 bd_code_Routine_0 26 [3, 4] [.ptr 1 0, .ptr 2 0] .done (some .ret), .blk 3 [i64 o1_0], .blk 3 [i64 s], .blk 23 [lv T_api_Def.enc o3_0], .ghost (gv 0) (.ptr 0 0), .ghost (gv 1) (.ptr 1 0), .ghost (gv 2) (.ptr 2 0), .ghost (gv 3) (.ptr 3 0)]⟩) (fun s => ⟨[(0, .yld 0), (1, .ptr 3 0), (3, i64 x1), (18, bo false)], [.loop #[19, 20] as_code_Routine_0 bd_code_Routine_0 26 [3, 4] [.ptr 1 0, .ptr 2 0] .ready none, .blk 3 [i64 o1_0], .blk 3 [i64 o2_0], .blk 23 [lv T_api_Def.enc o3_0], .ghost (gv 0) (.ptr 0 0), .ghost (gv 1) (.ptr 1 0), .ghost (gv 2) (.ptr 2 0), .ghost (gv 3) (.ptr 3 0)]⟩)) (Sum.elim (fun s => F_slices_Backward_retrace_api_Def_retrace_api_Def_1_J1 s = some oo2) (fun s => F_slices_Backward_retrace_api_Def_retrace_api_Def_1_J2 x1 = some oo2)) ?_ ?_
    · obtain ⟨y22, hy22, h⟩ := bind_some h
      obtain ⟨y23, hy23, h⟩ := bind_some h
      rcases y23 with y24 | y25
      · replace h := el_inl h
        refine At.rg [0, 1, 3, 18] [0, 1, 2, 3, 4, 5, 6, 7] [(4, { orc := .cells (T_api_Def.enc y22) }), (6, { pc := some { ρ := [0, 1, 2], n0 := 3, res := bo false, σ' := [.loop #[19, 20] as_code_Routine_0 bd_code_Routine_0 26 [3, 4] [.ptr 1 0, .ptr 2 0] .done (some .ret), .blk 3 [i64 o1_0], .blk 3 [i64 y24]], e := [1, 3, 5] } })] (by kernel_rfl) (allc (elemAt_of T_api_Def.enc_len hy22) (allc (C_R_code_Routine_0 x1 y22 o1_0 o2_0 (.inl y24) hy23) all0)) (edq (l := []) (ks := [0, 1, 3, 18]) (ρ := [0, 1, 2, 3, 4, 5, 6, 7]) (st' := ⟨[(0, .yld 0), (1, .ptr 3 0), (3, i64 x1), (18, bo true)], [.loop #[19, 20] as_code_Routine_0 bd_code_Routine_0 26 [3, 4] [.ptr 1 0, .ptr 2 0] .done (some .ret), .blk 3 [i64 o1_0], .blk 3 [i64 y24], .blk 23 [lv T_api_Def.enc o3_0], .ghost (gv 0) (.ptr 0 0), .ghost (gv 1) (.ptr 1 0), .ghost (gv 2) (.ptr 2 0), .ghost (gv 3) (.ptr 3 0)]⟩) (by kernel_rfl) (fun a w hs => ⟨.inl y24, h, hs⟩))
      · replace h := el_inr h
        refine At.rg [0, 1, 3, 18] [0, 1, 2, 3, 4, 5, 6, 7] [(4, { orc := .cells (T_api_Def.enc y22) }), (6, { pc := some { ρ := [0, 1, 2], n0 := 3, res := bo true, σ' := [.loop #[19, 20] as_code_Routine_0 bd_code_Routine_0 26 [3, 4] [.ptr 1 0, .ptr 2 0] .ready none, .blk 3 [i64 o1_0], .blk 3 [i64 o2_0]], e := [1, 3, 5] } })] (by kernel_rfl) (allc (elemAt_of T_api_Def.enc_len hy22) (allc (C_R_code_Routine_0 x1 y22 o1_0 o2_0 (.inr y25) hy23) all0)) (edq (l := []) (ks := [0, 1, 3, 18]) (ρ := [0, 1, 2, 3, 4, 5, 6, 7]) (st' := ⟨[(0, .yld 0), (1, .ptr 3 0), (3, i64 x1), (18, bo false)], [.loop #[19, 20] as_code_Routine_0 bd_code_Routine_0 26 [3, 4] [.ptr 1 0, .ptr 2 0] .ready none, .blk 3 [i64 o1_0], .blk 3 [i64 o2_0], .blk 23 [lv T_api_Def.enc o3_0], .ghost (gv 0) (.ptr 0 0), .ghost (gv 1) (.ptr 1 0), .ghost (gv 2) (.ptr 2 0), .ghost (gv 3) (.ptr 3 0)]⟩) (by kernel_rfl) (fun a w hs => ⟨.inr (()), h, hs⟩))
    · rintro (x19 | _) h
      · replace h : F_slices_Backward_retrace_api_Def_retrace_api_Def_1_J1 x19 = some oo2 := h
        rw [F_slices_Backward_retrace_api_Def_retrace_api_Def_1_J1] at h
        refine At.cond true (by kernel_rfl) (fun _ => ?_) (fun hb => by cases hb)
        obtain ⟨r20, h, e21⟩ := map_inr h
        rw [f3 _ e21] at h
        refine At.en [] [] [0, 1, 2, 3, 4, 5, 6, 7] (by kernel_rfl) ?_
        obtain rfl := some_eq h
        exact At.ret fun a w hs => ret_ok hR (ρ := [0, 1, 2, 3]) (gs := [.ghost (gv 0) (.ptr 0 0), .ghost (gv 1) (.ptr 1 0), .ghost (gv 2) (.ptr 2 0), .ghost (gv 3) (.ptr 3 0)]) (by kernel_rfl) all0 (by kernel_rfl) rfl rfl a w hs _ (.inl rfl)
      · replace h : F_slices_Backward_retrace_api_Def_retrace_api_Def_1_J2 x1 = some oo2 := h
        rw [F_slices_Backward_retrace_api_Def_retrace_api_Def_1_J2] at h
        refine At.cond false (by kernel_rfl) (fun hb => by cases hb) (fun _ => ?_)
        refine At.nr [0, 1, 3] [0, 1, 2, 3, 4, 5, 6, 7] (by kernel_rfl) ?_
        refine At.skip (norm ?_)
        refine At.rg [0, 1, 3] [0, 1, 2, 3, 4, 5, 6, 7] [] (by kernel_rfl) all0 (edq (l := []) (ks := [0, 1, 3]) (ρ := [0, 1, 2, 3, 4, 5, 6, 7]) (st' := ⟨[(0, .yld 0), (1, .ptr 3 0), (3, i64 (w64 (x1 - 1)))], [.loop #[19, 20] as_code_Routine_0 bd_code_Routine_0 26 [3, 4] [.ptr 1 0, .ptr 2 0] .ready none, .blk 3 [i64 o1_0], .blk 3 [i64 o2_0], .blk 23 [lv T_api_Def.enc o3_0], .ghost (gv 0) (.ptr 0 0), .ghost (gv 1) (.ptr 1 0), .ghost (gv 2) (.ptr 2 0), .ghost (gv 3) (.ptr 3 0)]⟩) (by kernel_rfl) (fun a w hs => ⟨_, (some_eq h).symm, hs⟩))
  · replace h := cond_f b5 h
    refine At.nr [] [0, 1, 2, 3, 4, 5, 6, 7] (by kernel_rfl) ?_
    obtain ⟨r26, h, e27⟩ := map_inr h
    rw [f3 _ e27] at h
    obtain rfl := some_eq h
    refine At.exit (edq (l := []) (ks := []) (ρ := [0, 1, 2, 3, 4, 5, 6, 7]) (st' := ⟨[], [.loop #[19, 20] as_code_Routine_0 bd_code_Routine_0 26 [3, 4] [.ptr 1 0, .ptr 2 0] .ready none, .blk 3 [i64 o1_0], .blk 3 [i64 o2_0], .blk 23 [lv T_api_Def.enc o3_0], .ghost (gv 0) (.ptr 0 0), .ghost (gv 1) (.ptr 1 0), .ghost (gv 2) (.ptr 2 0), .ghost (gv 3) (.ptr 3 0)]⟩) (by kernel_rfl) (fun a w hs => ret_ok hR (ρ := [0, 1, 2, 3]) (gs := [.ghost (gv 0) (.ptr 0 0), .ghost (gv 1) (.ptr 1 0), .ghost (gv 2) (.ptr 2 0), .ghost (gv 3) (.ptr 3 0)]) (by kernel_rfl) all0 (by kernel_rfl) rfl rfl a w hs _ (.inr rfl)))
set_option maxRecDepth 100000 in
theorem C_code_Routine (p0 : T_api_Code) (p1 : Int) (r : Int) (h : F_code_Routine p0 p1 = some r) : FnOK Tryz.prog 77 [.agg (T_api_Code.pvs p0), i64 p1] [] (i64 r) [] [] := by
  rw [F_code_Routine] at h
  refine FnOK.intro Tryz.func77 rfl (by kernel_rfl) (by kernel_rfl) fun E gv R hR => ?_
  refine At.seq ?_
  refine At.rg [2, 3, 4] [0, 1, 2] [] (by kernel_rfl) all0 (norm ?_)
  refine At.seq ?_
  refine At.seqJ (S := Bool) (fun s => ⟨[(2, .ptr 0 0), (3, .ptr 1 0), (4, .ptr 2 0), (15, bo s)], [.blk 26 (T_api_Code.pvs p0), .blk 3 [i64 p1], .blk 3 [i64 0]]⟩) (fun s => F_code_Routine_J1 p0 p1 s = some r) ?_ ?_
  · rcases tf (decide (p1 < 0)) with b18 | b18
    · replace h := cond_t b18 h
      refine At.rg [2, 3, 4, 15] [0, 1, 2] [(2, { orc := .val (.bool true) })] (by kernel_rfl) (allc (congrArg D.bool b18) all0) (edq (l := []) (ks := [2, 3, 4, 15]) (ρ := [0, 1, 2]) (st' := ⟨[(2, .ptr 0 0), (3, .ptr 1 0), (4, .ptr 2 0), (15, bo true)], [.blk 26 (T_api_Code.pvs p0), .blk 3 [i64 p1], .blk 3 [i64 0]]⟩) (by kernel_rfl) (fun a w hs => ⟨true, h, hs⟩))
    · replace h := cond_f b18 h
      refine At.rg [2, 3, 4, 15] [0, 1, 2] [(2, { orc := .val (.bool false) })] (by kernel_rfl) (allc (congrArg D.bool b18) all0) (edq (l := []) (ks := [2, 3, 4, 15]) (ρ := [0, 1, 2]) (st' := ⟨[(2, .ptr 0 0), (3, .ptr 1 0), (4, .ptr 2 0), (15, bo (decide (((p0.Ins).length : Int) ≤ p1)))], [.blk 26 (T_api_Code.pvs p0), .blk 3 [i64 p1], .blk 3 [i64 0]]⟩) (by kernel_rfl) (fun a w hs => ⟨(decide (((p0.Ins).length : Int) ≤ p1)), h, hs⟩))
  · intro x6 h
    replace h : F_code_Routine_J1 p0 p1 x6 = some r := h
    rw [F_code_Routine_J1] at h
    refine At.cond x6 (by kernel_rfl) (fun b7 => ?_) (fun b7 => ?_)
    · replace h := cond_t b7 h
      refine At.seq ?_
      refine At.rg [4] [2] [] (by kernel_rfl) all0 (norm ?_)
      obtain rfl := some_eq h
      exact At.ret fun a w hs => ret_ok hR (ρ := []) (gs := []) (by kernel_rfl) all0 (by kernel_rfl) rfl rfl a w hs _ (.inl rfl)
    · replace h := cond_f b7 h
      refine At.nr [2, 3, 4] [0, 1, 2] (by kernel_rfl) ?_
      refine At.skip (norm ?_)
      refine At.seq ?_
      refine At.seq ?_
      obtain ⟨y14, hy14, h⟩ := bind_some h
      refine At.rg [3, 4, 18] [1, 2, 3] [(2, { pc := some { ρ := [3], n0 := 0, res := .fn (.func 119) [] [.ptr 0 0], σ' := [.blk 23 [lv T_api_Def.enc y14]], e := [] } })] (by kernel_rfl) (allc (C_slices_Backward_retrace_api_Def_retrace_api_Def p0.Defs y14 hy14) all0) (norm ?_)
      refine At.block ?_
      obtain ⟨y15, hy15, h⟩ := bind_some h
      rcases y15 with y16 | y17
      · replace h := el_inl h
        refine At.range (pc := { ρ := [4, 0, 1, 2], n0 := 4, res := .tup [], σ' := [.loop #[19, 20] as_code_Routine_0 bd_code_Routine_0 26 [3, 4] [.ptr 1 0, .ptr 2 0] .done (some .ret), .blk 3 [i64 p1], .blk 3 [i64 y16], .blk 23 [lv T_api_Def.enc y14]], e := [1, 3, 5, 7] }) [3, 4] (st' := ⟨[(3, .ptr 0 0), (4, .ptr 1 0), (18, .fn (.func 119) [] [.ptr 2 0])], [.blk 3 [i64 p1], .blk 3 [i64 y16], .blk 23 [lv T_api_Def.enc y14], .mark, .dead]⟩) (jump := (some .ret)) (by kernel_rfl) (allc (C_slices_Backward_retrace_api_Def_retrace_api_Def_1 p1 0 y14 (.inl y16) hy15) all0) ?_
        show At _ _ _ _ .ret _ _
        refine At.en [] [4] [3, 1] (by kernel_rfl) ?_
        obtain rfl := some_eq h
        exact At.ret fun a w hs => ret_ok hR (ρ := []) (gs := []) (by kernel_rfl) all0 (by kernel_rfl) rfl rfl a w hs _ (.inl rfl)
      · replace h := el_inr h
        refine At.range (pc := { ρ := [4, 0, 1, 2], n0 := 4, res := .tup [], σ' := [.loop #[19, 20] as_code_Routine_0 bd_code_Routine_0 26 [3, 4] [.ptr 1 0, .ptr 2 0] .ready none, .blk 3 [i64 p1], .blk 3 [i64 0], .blk 23 [lv T_api_Def.enc y14]], e := [1, 3, 5, 7] }) [3, 4] (st' := ⟨[(3, .ptr 0 0), (4, .ptr 1 0), (18, .fn (.func 119) [] [.ptr 2 0])], [.blk 3 [i64 p1], .blk 3 [i64 0], .blk 23 [lv T_api_Def.enc y14], .mark, .dead]⟩) (jump := none) (by kernel_rfl) (allc (C_slices_Backward_retrace_api_Def_retrace_api_Def_1 p1 0 y14 (.inr y17) hy15) all0) (nark [4] [3, 1] (st' := ⟨[(4, .ptr 1 0)], [.mark, .blk 3 [i64 0]]⟩) (by kernel_rfl) (norm ?_))
        refine At.seq ?_
        refine At.rg [4] [0, 1] [] (by kernel_rfl) all0 (norm ?_)
        obtain rfl := some_eq h
        exact At.ret fun a w hs => ret_ok hR (ρ := []) (gs := []) (by kernel_rfl) all0 (by kernel_rfl) rfl rfl a w hs _ (.inl rfl)
set_option maxRecDepth 100000 in
theorem C_proc_op (p0 : T_api_Code) (p1 : T_api_Proc) (p2 : Int) (r : Int) (h : F_proc_op p0 p1 p2 = some r) : FnOK Tryz.prog 46 [.agg (T_api_Code.pvs p0), .agg (T_api_Proc.pvs p1), i64 p2] [] (i64 r) [] [] := by
  rw [F_proc_op] at h
  refine FnOK.intro Tryz.func46 rfl (by kernel_rfl) (by kernel_rfl) fun E gv R hR => ?_
  refine At.seq ?_
  refine At.rg [2, 3, 4] [0, 1] [] (by kernel_rfl) all0 (norm ?_)
  refine At.seq ?_
  refine At.seqJ (S := Bool) (fun s => ⟨[(2, i64 p2), (3, .ptr 0 0), (23, bo s)], [.blk 26 (T_api_Code.pvs p0)]⟩) (fun s => F_proc_op_J1 p0 p2 s = some r) ?_ ?_
  · rcases tf (decide (p2 < 0)) with b16 | b16
    · replace h := cond_t b16 h
      refine At.dg mixedOrd 0 [2, 3, 23] [0] [(2, { tip := { orc := .val (.bool true) } }), (4, { r := 2 }), (6, { r := 2 }), (10, { T := [0], r := 2 }), (12, { r := 2 }), (13, { r := 2 })] (by kernel_rfl) (allc (congrArg D.bool b16) all0) (edq (l := []) (ks := [2, 3, 23]) (ρ := [0]) (st' := ⟨[(2, i64 p2), (3, .ptr 0 0), (23, bo true)], [.blk 26 (T_api_Code.pvs p0)]⟩) (by kernel_rfl) (fun a w hs => ⟨true, h, hs⟩))
    · replace h := cond_f b16 h
      rcases tf (decide (((p0.Ins).length : Int) ≤ p2)) with b17 | b17
      · replace h := cond_t b17 h
        refine At.dg mixedOrd 0 [2, 3, 23] [0] [(2, { tip := { orc := .val (.bool false) } }), (4, { r := 2 }), (5, { T := [0], r := 2 }), (6, { r := 2 }), (9, { tip := { orc := .val (.bool true) } }), (10, { T := [0], r := 2 }), (12, { r := 2 }), (13, { r := 2 })] (by kernel_rfl) (allc (congrArg D.bool b16) (allc (congrArg D.bool b17) all0)) (edq (l := []) (ks := [2, 3, 23]) (ρ := [0]) (st' := ⟨[(2, i64 p2), (3, .ptr 0 0), (23, bo true)], [.blk 26 (T_api_Code.pvs p0)]⟩) (by kernel_rfl) (fun a w hs => ⟨true, h, hs⟩))
      · replace h := cond_f b17 h
        obtain ⟨y18, hy18, h⟩ := bind_some h
        refine At.dg mixedOrd 0 [2, 3, 23] [0] [(2, { tip := { orc := .val (.bool false) } }), (4, { r := 2 }), (5, { T := [0], r := 2 }), (6, { r := 2 }), (9, { tip := { orc := .val (.bool false) } }), (10, { T := [0], r := 2 }), (12, { tip := { pc := some { ρ := [], n0 := 0, res := i64 y18, σ' := [], e := [] } }, r := 2 }), (13, { r := 2 }), (14, { T := [1], r := 2 })] (by kernel_rfl) (allc (congrArg D.bool b16) (allc (congrArg D.bool b17) (allc (C_code_Routine p0 p2 y18 hy18) all0))) (edq (l := []) (ks := [2, 3, 23]) (ρ := [0]) (st' := ⟨[(2, i64 p2), (3, .ptr 0 0), (23, bo (y18 != p1.Def))], [.blk 26 (T_api_Code.pvs p0)]⟩) (by kernel_rfl) (fun a w hs => ⟨(y18 != p1.Def), h, hs⟩))
  · intro x12 h
    replace h : F_proc_op_J1 p0 p2 x12 = some r := h
    rw [F_proc_op_J1] at h
    refine At.cond x12 (by kernel_rfl) (fun b13 => ?_) (fun b13 => ?_)
    · replace h := cond_t b13 h
      refine At.seq ?_
      refine At.rg [6] [] [] (by kernel_rfl) all0 (norm ?_)
      obtain rfl := some_eq h
      exact At.ret fun a w hs => ret_ok hR (ρ := []) (gs := []) (by kernel_rfl) all0 (by kernel_rfl) rfl rfl a w hs _ (.inl rfl)
    · replace h := cond_f b13 h
      refine At.nr [2, 3] [0] (by kernel_rfl) ?_
      refine At.skip (norm ?_)
      refine At.seq ?_
      obtain ⟨y15, hy15, h⟩ := bind_some h
      refine At.rg [6] [] [(3, { orc := .cells (T_api_Ins.enc y15) })] (by kernel_rfl) (allc (elemAt_of T_api_Ins.enc_len hy15) all0) (norm ?_)
      obtain rfl := some_eq h
      exact At.ret fun a w hs => ret_ok hR (ρ := []) (gs := []) (by kernel_rfl) all0 (by kernel_rfl) rfl rfl a w hs _ (.inl rfl)
set_option maxRecDepth 100000 in
theorem C_proc_looks_1 (o0 : T_api_Code) (o1 : T_api_Proc) (r : Bool) (h : F_proc_looks_1 o0 o1 = some r) : FnOK Tryz.prog 45 [.ptr 0 0, .ptr 1 0] [.blk 26 (T_api_Code.pvs o0), .blk 30 (T_api_Proc.pvs o1)] (bo r) [.blk 26 (T_api_Code.pvs o0), .blk 30 (T_api_Proc.pvs o1)] [1, 3] := by
  rw [F_proc_looks_1] at h
  refine FnOK.intro Tryz.func45 rfl (by kernel_rfl) (by kernel_rfl) fun E gv R hR => ?_
  refine At.seq ?_
  refine At.rg [0, 1] [0, 1, 2, 3] [] (by kernel_rfl) all0 (norm ?_)
  refine At.seq ?_
  obtain ⟨y2, hy2, h⟩ := bind_some h
  refine At.rg [2] [0, 1, 2, 3] [(4, { pc := some { ρ := [], n0 := 0, res := i64 y2, σ' := [], e := [] } })] (by kernel_rfl) (allc (C_proc_op o0 o1 o1.At y2 hy2) all0) (norm ?_)
  obtain rfl := some_eq h
  exact At.ret fun a w hs => ret_ok hR (ρ := [0, 1]) (gs := [.ghost (gv 0) (.ptr 0 0), .ghost (gv 1) (.ptr 1 0)]) (by kernel_rfl) all0 (by kernel_rfl) rfl rfl a w hs _ (.inl rfl)
set_option maxRecDepth 100000 in
theorem C_proc_looks_2 (p0 : Int) (o0 : T_api_Code) (o1 : T_api_Proc) (r : Bool) (h : F_proc_looks_2 p0 o0 o1 = some r) : FnOK Tryz.prog 47 [i64 p0, .ptr 0 0, .ptr 1 0] [.blk 26 (T_api_Code.pvs o0), .blk 30 (T_api_Proc.pvs o1)] (bo r) [.blk 26 (T_api_Code.pvs o0), .blk 30 (T_api_Proc.pvs o1)] [1, 3] := by
  rw [F_proc_looks_2] at h
  refine FnOK.intro Tryz.func47 rfl (by kernel_rfl) (by kernel_rfl) fun E gv R hR => ?_
  refine At.seq ?_
  refine At.rg [0, 1, 2] [0, 1, 2, 3] [] (by kernel_rfl) all0 (norm ?_)
  refine At.seq ?_
  obtain ⟨y2, hy2, h⟩ := bind_some h
  refine At.rg [5] [0, 1, 2, 3] [(3, { pc := some { ρ := [], n0 := 0, res := i64 y2, σ' := [], e := [] } })] (by kernel_rfl) (allc (C_proc_op o0 o1 p0 y2 hy2) all0) (norm ?_)
  refine At.seqJ (S := Bool) (fun s => ⟨[(4, bo s)], [.blk 26 (T_api_Code.pvs o0), .blk 30 (T_api_Proc.pvs o1), .ghost (gv 0) (.ptr 0 0), .ghost (gv 1) (.ptr 1 0)]⟩) (fun s => F_proc_looks_2_J1 s = some r) ?_ ?_
  · rcases tf (y2 == 1) with b5 | b5
    · replace h := cond_t b5 h
      refine At.rg [4] [0, 1, 2, 3] [(2, { orc := .val (.bool true) })] (by kernel_rfl) (allc (congrArg D.bool b5) all0) (edq (l := []) (ks := [4]) (ρ := [0, 1, 2, 3]) (st' := ⟨[(4, bo true)], [.blk 26 (T_api_Code.pvs o0), .blk 30 (T_api_Proc.pvs o1), .ghost (gv 0) (.ptr 0 0), .ghost (gv 1) (.ptr 1 0)]⟩) (by kernel_rfl) (fun a w hs => ⟨true, h, hs⟩))
    · replace h := cond_f b5 h
      refine At.rg [4] [0, 1, 2, 3] [(2, { orc := .val (.bool false) })] (by kernel_rfl) (allc (congrArg D.bool b5) all0) (edq (l := []) (ks := [4]) (ρ := [0, 1, 2, 3]) (st' := ⟨[(4, bo (y2 == 24))], [.blk 26 (T_api_Code.pvs o0), .blk 30 (T_api_Proc.pvs o1), .ghost (gv 0) (.ptr 0 0), .ghost (gv 1) (.ptr 1 0)]⟩) (by kernel_rfl) (fun a w hs => ⟨(y2 == 24), h, hs⟩))
  · intro x4 h
    replace h : F_proc_looks_2_J1 x4 = some r := h
    rw [F_proc_looks_2_J1] at h
    obtain rfl := some_eq h
    exact At.ret fun a w hs => ret_ok hR (ρ := [0, 1]) (gs := [.ghost (gv 0) (.ptr 0 0), .ghost (gv 1) (.ptr 1 0)]) (by kernel_rfl) all0 (by kernel_rfl) rfl rfl a w hs _ (.inl rfl)
set_option maxRecDepth 100000 in
theorem C_proc_Chans (p0 : T_api_Code) (r : Int) (h : F_proc_Chans p0 = some r) : FnOK Tryz.prog 12 [.agg (T_api_Code.pvs p0)] [] (i64 r) [] [] := by
  rw [F_proc_Chans] at h
  refine FnOK.intro Tryz.func12 rfl (by kernel_rfl) (by kernel_rfl) fun E gv R hR => ?_
  refine At.seq ?_
  refine At.rg [1] [0] [] (by kernel_rfl) all0 (norm ?_)
  refine At.seq ?_
  refine At.rg [1, 3] [0] [] (by kernel_rfl) all0 (norm ?_)
  refine At.seq ?_
  refine At.seq ?_
  refine At.rg [3, 7, 8, 9] [] [] (by kernel_rfl) all0 (norm ?_)
  refine At.block ?_
  refine At.nar [3, 7, 8, 9] [] (st' := ⟨[(3, i64 0), (7, lv T_api_Chan.enc p0.Chans), (8, i64 ((p0.Chans).length : Int)), (9, i64 0)], []⟩) (by kernel_rfl) ?_
  refine At.loop (fun s : (Int × Int) => F_proc_Chans_L1 p0 s.1 s.2) (fun s : (Int × Int) => ⟨[(3, i64 s.1), (7, lv T_api_Chan.enc p0.Chans), (8, i64 ((p0.Chans).length : Int)), (9, i64 s.2)], []⟩) r (0, 0) h ?_
  rintro ⟨x13, x14⟩ oo15 h f16
  replace h : F_proc_Chans_L1 p0 x13 x14 = some oo15 := h
  rw [F_proc_Chans_L1] at h
  refine At.seq ?_
  refine At.rg [3, 7, 8, 9, 10] [] [] (by kernel_rfl) all0 (norm ?_)
  refine At.seq ?_
  refine At.cond (decide (x14 < ((p0.Chans).length : Int))) (by kernel_rfl) (fun b18 => ?_) (fun b18 => ?_)
  · replace h := cond_t b18 h
    refine At.nr [3, 7, 8, 9] [] (by kernel_rfl) ?_
    refine At.skip (norm ?_)
    refine At.seq ?_
    refine At.block ?_
    refine At.seq ?_
    obtain ⟨y22, hy22, h⟩ := bind_some h
    refine At.rg [3, 5, 7, 8, 9] [0] [(0, { orc := .cells (T_api_Chan.enc y22) })] (by kernel_rfl) (allc (elemAt_of T_api_Chan.enc_len hy22) all0) (norm ?_)
    refine At.rg [3, 7, 8, 9] [] [] (by kernel_rfl) all0 (norm ?_)
    refine At.rg [3, 7, 8, 9] [] [] (by kernel_rfl) all0 (edq (l := []) (ks := [3, 7, 8, 9]) (ρ := []) (st' := ⟨[(3, i64 (w64 (x13 + (if 1 > y22.Size then 1 else y22.Size)))), (7, lv T_api_Chan.enc p0.Chans), (8, i64 ((p0.Chans).length : Int)), (9, i64 (w64 (x14 + 1)))], []⟩) (by kernel_rfl) (fun a w hs => ⟨_, (some_eq h).symm, hs⟩))
  · replace h := cond_f b18 h
    refine At.nr [3] [] (by kernel_rfl) ?_
    obtain ⟨r23, h, e24⟩ := map_inr h
    rw [f16 _ e24] at h
    refine At.exit (norm ?_)
    refine At.seq ?_
    refine At.rg [2] [] [] (by kernel_rfl) all0 (norm ?_)
    obtain rfl := some_eq h
    exact At.ret fun a w hs => ret_ok hR (ρ := []) (gs := []) (by kernel_rfl) all0 (by kernel_rfl) rfl rfl a w hs _ (.inl rfl)
set_option maxRecDepth 100000 in
theorem C_proc_looks_3 (p0 : Int) (o0 : T_api_Code) (r : Bool) (h : F_proc_looks_3 p0 o0 = some r) : FnOK Tryz.prog 48 [i64 p0, .ptr 0 0] [.blk 26 (T_api_Code.pvs o0)] (bo r) [.blk 26 (T_api_Code.pvs o0)] [1] := by
  rw [F_proc_looks_3] at h
  refine FnOK.intro Tryz.func48 rfl (by kernel_rfl) (by kernel_rfl) fun E gv R hR => ?_
  refine At.seq ?_
  refine At.rg [0, 1] [0, 1] [] (by kernel_rfl) all0 (norm ?_)
  refine At.seq ?_
  obtain ⟨y3, hy3, h⟩ := bind_some h
  obtain ⟨y4, hy4, h⟩ := bind_some h
  refine At.rg [3] [0, 1] [(2, { pc := some { ρ := [], n0 := 0, res := i64 y3, σ' := [], e := [] } }), (4, { pc := some { ρ := [], n0 := 0, res := bo y4, σ' := [], e := [] } })] (by kernel_rfl) (allc (C_proc_Chans o0 y3 hy3) (allc (C_proc_within p0 (w64 (y3 - 1)) y4 hy4) all0)) (norm ?_)
  obtain rfl := some_eq h
  exact At.ret fun a w hs => ret_ok hR (ρ := [0]) (gs := [.ghost (gv 0) (.ptr 0 0)]) (by kernel_rfl) all0 (by kernel_rfl) rfl rfl a w hs _ (.inl rfl)
set_option maxRecDepth 100000 in
theorem C_proc_looks_6 (o1 : T_api_Code) (o2 : T_api_Proc) (r : Bool) (h : F_proc_looks_6 o1 o2 = some r) : FnOK Tryz.prog 51 [.ptr 0 0, .ptr 2 0, .ptr 3 0] [.blk 86 [.fn (.func 47) [] [.ptr 1 0, .ptr 2 0]], .blk 26 (T_api_Code.pvs o1), .blk 30 (T_api_Proc.pvs o2), .blk 86 [.fn (.func 48) [] [.ptr 1 0]]] (bo r) [.blk 86 [.fn (.func 47) [] [.ptr 1 0, .ptr 2 0]], .blk 26 (T_api_Code.pvs o1), .blk 30 (T_api_Proc.pvs o2), .blk 86 [.fn (.func 48) [] [.ptr 1 0]]] [1, 3, 5, 7] := by
  rw [F_proc_looks_6] at h
  refine FnOK.intro Tryz.func51 rfl (by kernel_rfl) (by kernel_rfl) fun E gv R hR => ?_
  refine At.seq ?_
  refine At.rg [0, 1, 2] [0, 1, 2, 3, 4, 5, 6, 7] [] (by kernel_rfl) all0 (norm ?_)
  refine At.seqJ (S := Bool) (fun s => ⟨[(3, bo s)], [.blk 86 [.fn (.func 47) [] [.ptr 1 0, .ptr 2 0]], .blk 26 (T_api_Code.pvs o1), .blk 30 (T_api_Proc.pvs o2), .blk 86 [.fn (.func 48) [] [.ptr 1 0]], .ghost (gv 0) (.ptr 0 0), .ghost (gv 1) (.ptr 1 0), .ghost (gv 2) (.ptr 2 0), .ghost (gv 3) (.ptr 3 0)]⟩) (fun s => F_proc_looks_6_J1 s = some r) ?_ ?_
  · obtain ⟨y5, hy5, h⟩ := bind_some h
    rcases tf y5 with b6 | b6
    · replace h := cond_t b6 h
      obtain ⟨y7, hy7, h⟩ := bind_some h
      refine At.rg [3] [0, 1, 2, 3, 4, 5, 6, 7] [(3, { pc := some { ρ := [1, 2], n0 := 2, res := bo y5, σ' := [.blk 26 (T_api_Code.pvs o1), .blk 30 (T_api_Proc.pvs o2)], e := [1, 3] } }), (4, { orc := .val (.bool true) }), (8, { pc := some { ρ := [1], n0 := 1, res := bo y7, σ' := [.blk 26 (T_api_Code.pvs o1)], e := [1] } })] (by kernel_rfl) (allc (C_proc_looks_2 o2.At o1 o2 y5 hy5) (allc (congrArg D.bool b6) (allc (C_proc_looks_3 o2.Chan o1 y7 hy7) all0))) (edq (l := []) (ks := [3]) (ρ := [0, 1, 2, 3, 4, 5, 6, 7]) (st' := ⟨[(3, bo y7)], [.blk 86 [.fn (.func 47) [] [.ptr 1 0, .ptr 2 0]], .blk 26 (T_api_Code.pvs o1), .blk 30 (T_api_Proc.pvs o2), .blk 86 [.fn (.func 48) [] [.ptr 1 0]], .ghost (gv 0) (.ptr 0 0), .ghost (gv 1) (.ptr 1 0), .ghost (gv 2) (.ptr 2 0), .ghost (gv 3) (.ptr 3 0)]⟩) (by kernel_rfl) (fun a w hs => ⟨y7, h, hs⟩))
    · replace h := cond_f b6 h
      refine At.rg [3] [0, 1, 2, 3, 4, 5, 6, 7] [(3, { pc := some { ρ := [1, 2], n0 := 2, res := bo y5, σ' := [.blk 26 (T_api_Code.pvs o1), .blk 30 (T_api_Proc.pvs o2)], e := [1, 3] } }), (4, { orc := .val (.bool false) })] (by kernel_rfl) (allc (C_proc_looks_2 o2.At o1 o2 y5 hy5) (allc (congrArg D.bool b6) all0)) (edq (l := []) (ks := [3]) (ρ := [0, 1, 2, 3, 4, 5, 6, 7]) (st' := ⟨[(3, bo false)], [.blk 86 [.fn (.func 47) [] [.ptr 1 0, .ptr 2 0]], .blk 26 (T_api_Code.pvs o1), .blk 30 (T_api_Proc.pvs o2), .blk 86 [.fn (.func 48) [] [.ptr 1 0]], .ghost (gv 0) (.ptr 0 0), .ghost (gv 1) (.ptr 1 0), .ghost (gv 2) (.ptr 2 0), .ghost (gv 3) (.ptr 3 0)]⟩) (by kernel_rfl) (fun a w hs => ⟨false, h, hs⟩))
  · intro x4 h
    replace h : F_proc_looks_6_J1 x4 = some r := h
    rw [F_proc_looks_6_J1] at h
    obtain rfl := some_eq h
    exact At.ret fun a w hs => ret_ok hR (ρ := [0, 1, 2, 3]) (gs := [.ghost (gv 0) (.ptr 0 0), .ghost (gv 1) (.ptr 1 0), .ghost (gv 2) (.ptr 2 0), .ghost (gv 3) (.ptr 3 0)]) (by kernel_rfl) all0 (by kernel_rfl) rfl rfl a w hs _ (.inl rfl)
set_option maxRecDepth 100000 in
theorem C_proc_looks_4 (p0 : Int) (o0 : T_api_Proc) (r : Bool) (h : F_proc_looks_4 p0 o0 = some r) : FnOK Tryz.prog 49 [i64 p0, .ptr 0 0] [.blk 30 (T_api_Proc.pvs o0)] (bo r) [.blk 30 (T_api_Proc.pvs o0)] [1] := by
  rw [F_proc_looks_4] at h
  refine FnOK.intro Tryz.func49 rfl (by kernel_rfl) (by kernel_rfl) fun E gv R hR => ?_
  refine At.seq ?_
  refine At.rg [0, 1] [0, 1] [] (by kernel_rfl) all0 (norm ?_)
  refine At.seq ?_
  obtain ⟨y2, hy2, h⟩ := bind_some h
  refine At.rg [3] [0, 1] [(5, { pc := some { ρ := [], n0 := 0, res := bo y2, σ' := [], e := [] } })] (by kernel_rfl) (allc (C_proc_within p0 (w64 (((o0.Vars).length : Int) - 1)) y2 hy2) all0) (norm ?_)
  obtain rfl := some_eq h
  exact At.ret fun a w hs => ret_ok hR (ρ := [0]) (gs := [.ghost (gv 0) (.ptr 0 0)]) (by kernel_rfl) all0 (by kernel_rfl) rfl rfl a w hs _ (.inl rfl)
set_option maxRecDepth 100000 in
theorem C_proc_looks_7 (o1 : T_api_Code) (o2 : T_api_Proc) (r : Bool) (h : F_proc_looks_7 o1 o2 = some r) : FnOK Tryz.prog 52 [.ptr 0 0, .ptr 2 0, .ptr 3 0, .ptr 4 0] [.blk 86 [.fn (.func 47) [] [.ptr 1 0, .ptr 2 0]], .blk 26 (T_api_Code.pvs o1), .blk 30 (T_api_Proc.pvs o2), .blk 86 [.fn (.func 48) [] [.ptr 1 0]], .blk 86 [.fn (.func 49) [] [.ptr 2 0]]] (bo r) [.blk 86 [.fn (.func 47) [] [.ptr 1 0, .ptr 2 0]], .blk 26 (T_api_Code.pvs o1), .blk 30 (T_api_Proc.pvs o2), .blk 86 [.fn (.func 48) [] [.ptr 1 0]], .blk 86 [.fn (.func 49) [] [.ptr 2 0]]] [1, 3, 5, 7, 9] := by
  rw [F_proc_looks_7] at h
  refine FnOK.intro Tryz.func52 rfl (by kernel_rfl) (by kernel_rfl) fun E gv R hR => ?_
  refine At.seq ?_
  refine At.rg [0, 1, 2, 3] [0, 1, 2, 3, 4, 5, 6, 7, 8, 9] [] (by kernel_rfl) all0 (norm ?_)
  refine At.seqJ (S := Bool) (fun s => ⟨[(4, bo s)], [.blk 86 [.fn (.func 47) [] [.ptr 1 0, .ptr 2 0]], .blk 26 (T_api_Code.pvs o1), .blk 30 (T_api_Proc.pvs o2), .blk 86 [.fn (.func 48) [] [.ptr 1 0]], .blk 86 [.fn (.func 49) [] [.ptr 2 0]], .ghost (gv 0) (.ptr 0 0), .ghost (gv 1) (.ptr 1 0), .ghost (gv 2) (.ptr 2 0), .ghost (gv 3) (.ptr 3 0), .ghost (gv 4) (.ptr 4 0)]⟩) (fun s => F_proc_looks_7_J1 s = some r) ?_ ?_
  · obtain ⟨y7, hy7, h⟩ := bind_some h
    rcases tf y7 with b8 | b8
    · replace h := cond_t b8 h
      obtain ⟨y9, hy9, h⟩ := bind_some h
      rcases tf y9 with b10 | b10
      · replace h := cond_t b10 h
        obtain ⟨y11, hy11, h⟩ := bind_some h
        refine At.rg [4] [0, 1, 2, 3, 4, 5, 6, 7, 8, 9] [(3, { pc := some { ρ := [1, 2], n0 := 2, res := bo y7, σ' := [.blk 26 (T_api_Code.pvs o1), .blk 30 (T_api_Proc.pvs o2)], e := [1, 3] } }), (4, { orc := .val (.bool true) }), (8, { pc := some { ρ := [1], n0 := 1, res := bo y9, σ' := [.blk 26 (T_api_Code.pvs o1)], e := [1] } }), (10, { orc := .val (.bool true) }), (14, { pc := some { ρ := [2], n0 := 1, res := bo y11, σ' := [.blk 30 (T_api_Proc.pvs o2)], e := [1] } })] (by kernel_rfl) (allc (C_proc_looks_2 o2.At o1 o2 y7 hy7) (allc (congrArg D.bool b8) (allc (C_proc_looks_3 o2.Chan o1 y9 hy9) (allc (congrArg D.bool b10) (allc (C_proc_looks_4 o2.Slot o2 y11 hy11) all0))))) (edq (l := []) (ks := [4]) (ρ := [0, 1, 2, 3, 4, 5, 6, 7, 8, 9]) (st' := ⟨[(4, bo y11)], [.blk 86 [.fn (.func 47) [] [.ptr 1 0, .ptr 2 0]], .blk 26 (T_api_Code.pvs o1), .blk 30 (T_api_Proc.pvs o2), .blk 86 [.fn (.func 48) [] [.ptr 1 0]], .blk 86 [.fn (.func 49) [] [.ptr 2 0]], .ghost (gv 0) (.ptr 0 0), .ghost (gv 1) (.ptr 1 0), .ghost (gv 2) (.ptr 2 0), .ghost (gv 3) (.ptr 3 0), .ghost (gv 4) (.ptr 4 0)]⟩) (by kernel_rfl) (fun a w hs => ⟨y11, h, hs⟩))
      · replace h := cond_f b10 h
        refine At.rg [4] [0, 1, 2, 3, 4, 5, 6, 7, 8, 9] [(3, { pc := some { ρ := [1, 2], n0 := 2, res := bo y7, σ' := [.blk 26 (T_api_Code.pvs o1), .blk 30 (T_api_Proc.pvs o2)], e := [1, 3] } }), (4, { orc := .val (.bool true) }), (8, { pc := some { ρ := [1], n0 := 1, res := bo y9, σ' := [.blk 26 (T_api_Code.pvs o1)], e := [1] } }), (10, { orc := .val (.bool false) })] (by kernel_rfl) (allc (C_proc_looks_2 o2.At o1 o2 y7 hy7) (allc (congrArg D.bool b8) (allc (C_proc_looks_3 o2.Chan o1 y9 hy9) (allc (congrArg D.bool b10) all0)))) (edq (l := []) (ks := [4]) (ρ := [0, 1, 2, 3, 4, 5, 6, 7, 8, 9]) (st' := ⟨[(4, bo false)], [.blk 86 [.fn (.func 47) [] [.ptr 1 0, .ptr 2 0]], .blk 26 (T_api_Code.pvs o1), .blk 30 (T_api_Proc.pvs o2), .blk 86 [.fn (.func 48) [] [.ptr 1 0]], .blk 86 [.fn (.func 49) [] [.ptr 2 0]], .ghost (gv 0) (.ptr 0 0), .ghost (gv 1) (.ptr 1 0), .ghost (gv 2) (.ptr 2 0), .ghost (gv 3) (.ptr 3 0), .ghost (gv 4) (.ptr 4 0)]⟩) (by kernel_rfl) (fun a w hs => ⟨false, h, hs⟩))
    · replace h := cond_f b8 h
      refine At.rg [4] [0, 1, 2, 3, 4, 5, 6, 7, 8, 9] [(3, { pc := some { ρ := [1, 2], n0 := 2, res := bo y7, σ' := [.blk 26 (T_api_Code.pvs o1), .blk 30 (T_api_Proc.pvs o2)], e := [1, 3] } }), (4, { orc := .val (.bool false) })] (by kernel_rfl) (allc (C_proc_looks_2 o2.At o1 o2 y7 hy7) (allc (congrArg D.bool b8) all0)) (edq (l := []) (ks := [4]) (ρ := [0, 1, 2, 3, 4, 5, 6, 7, 8, 9]) (st' := ⟨[(4, bo false)], [.blk 86 [.fn (.func 47) [] [.ptr 1 0, .ptr 2 0]], .blk 26 (T_api_Code.pvs o1), .blk 30 (T_api_Proc.pvs o2), .blk 86 [.fn (.func 48) [] [.ptr 1 0]], .blk 86 [.fn (.func 49) [] [.ptr 2 0]], .ghost (gv 0) (.ptr 0 0), .ghost (gv 1) (.ptr 1 0), .ghost (gv 2) (.ptr 2 0), .ghost (gv 3) (.ptr 3 0), .ghost (gv 4) (.ptr 4 0)]⟩) (by kernel_rfl) (fun a w hs => ⟨false, h, hs⟩))
  · intro x6 h
    replace h : F_proc_looks_7_J1 x6 = some r := h
    rw [F_proc_looks_7_J1] at h
    obtain rfl := some_eq h
    exact At.ret fun a w hs => ret_ok hR (ρ := [0, 1, 2, 3, 4]) (gs := [.ghost (gv 0) (.ptr 0 0), .ghost (gv 1) (.ptr 1 0), .ghost (gv 2) (.ptr 2 0), .ghost (gv 3) (.ptr 3 0), .ghost (gv 4) (.ptr 4 0)]) (by kernel_rfl) all0 (by kernel_rfl) rfl rfl a w hs _ (.inl rfl)
set_option maxRecDepth 100000 in
theorem C_proc_looks_5 (p0 : T_api_Alt) (o1 : T_api_Code) (o2 : T_api_Proc) (r : Bool) (h : F_proc_looks_5 p0 o1 o2 = some r) : FnOK Tryz.prog 50 [.agg (T_api_Alt.pvs p0), .ptr 0 0, .ptr 3 0, .ptr 4 0] [.blk 86 [.fn (.func 47) [] [.ptr 1 0, .ptr 2 0]], .blk 26 (T_api_Code.pvs o1), .blk 30 (T_api_Proc.pvs o2), .blk 86 [.fn (.func 48) [] [.ptr 1 0]], .blk 86 [.fn (.func 49) [] [.ptr 2 0]]] (bo r) [.blk 86 [.fn (.func 47) [] [.ptr 1 0, .ptr 2 0]], .blk 26 (T_api_Code.pvs o1), .blk 30 (T_api_Proc.pvs o2), .blk 86 [.fn (.func 48) [] [.ptr 1 0]], .blk 86 [.fn (.func 49) [] [.ptr 2 0]]] [1, 3, 5, 7, 9] := by
  rw [F_proc_looks_5] at h
  refine FnOK.intro Tryz.func50 rfl (by kernel_rfl) (by kernel_rfl) fun E gv R hR => ?_
  refine At.seq ?_
  refine At.rg [1, 2, 3, 4] [0, 1, 2, 3, 4, 5, 6, 7, 8, 9, 10] [] (by kernel_rfl) all0 (norm ?_)
  refine At.seq ?_
  refine At.rg [1, 2, 3, 4, 6] [0, 1, 2, 3, 4, 5, 6, 7, 8, 9, 10, 11] [] (by kernel_rfl) all0 (norm ?_)
  refine At.seq ?_
  obtain ⟨y2, hy2, h⟩ := bind_some h
  refine At.rg [2, 3, 4, 6, 7] [0, 1, 2, 3, 4, 5, 6, 7, 8, 9, 10, 11] [(3, { pc := some { ρ := [1, 2], n0 := 2, res := bo y2, σ' := [.blk 26 (T_api_Code.pvs o1), .blk 30 (T_api_Proc.pvs o2)], e := [1, 3] } })] (by kernel_rfl) (allc (C_proc_looks_2 p0.Goto o1 o2 y2 hy2) all0) (norm ?_)
  refine At.seqJ (S := Bool × Int × Int × Int) (fun s => ⟨[(4, .ptr 10 0), (6, .ptr 11 0), (7, bo s.1)], [.blk 86 [.fn (.func 47) [] [.ptr 1 0, .ptr 2 0]], .blk 26 (T_api_Code.pvs o1), .blk 30 (T_api_Proc.pvs o2), .blk 86 [.fn (.func 48) [] [.ptr 1 0]], .blk 86 [.fn (.func 49) [] [.ptr 2 0]], .ghost (gv 0) (.ptr 0 0), .ghost (gv 1) (.ptr 1 0), .ghost (gv 2) (.ptr 2 0), .ghost (gv 3) (.ptr 3 0), .ghost (gv 4) (.ptr 4 0), .blk 63 (T_api_Alt.pvs p0), .blk 63 [i64 p0.Kind, i64 s.2.1, i64 s.2.2.1, i64 s.2.2.2, i64 p0.Goto]]⟩) (fun s => F_proc_looks_5_J1 p0 s.1 s.2.1 s.2.2.1 s.2.2.2 = some r) ?_ ?_
  · refine At.seq ?_
    refine At.rg [2, 3, 4, 6, 7, 18] [0, 1, 2, 3, 4, 5, 6, 7, 8, 9, 10, 11] [] (by kernel_rfl) all0 (norm ?_)
    refine At.block ?_
    refine At.seq ?_
    refine At.rg [2, 3, 4, 6, 7, 18, 19] [0, 1, 2, 3, 4, 5, 6, 7, 8, 9, 10, 11] [] (by kernel_rfl) all0 (norm ?_)
    refine At.cond (p0.Kind == 1) (by kernel_rfl) (fun b21 => ?_) (fun b21 => ?_)
    · replace h := cond_t b21 h
      refine At.seq ?_
      refine At.draw_end mixedOrd 0 [2, 3, 4, 6, 7] [0, 1, 2, 3, 4, 5, 6, 7, 8, 9, 10, 11] _ (st' := ⟨[(2, .ptr 3 0), (3, .ptr 4 0), (4, .ptr 10 0), (6, .ptr 11 0), (7, bo y2)], [.blk 86 [.fn (.func 47) [] [.ptr 1 0, .ptr 2 0]], .blk 26 (T_api_Code.pvs o1), .blk 30 (T_api_Proc.pvs o2), .blk 86 [.fn (.func 48) [] [.ptr 1 0]], .blk 86 [.fn (.func 49) [] [.ptr 2 0]], .ghost (gv 0) (.ptr 0 0), .ghost (gv 1) (.ptr 1 0), .ghost (gv 2) (.ptr 2 0), .ghost (gv 3) (.ptr 3 0), .ghost (gv 4) (.ptr 4 0), .blk 63 (T_api_Alt.pvs p0), .blk 63 [i64 p0.Kind, i64 p0.Chan, i64 0, i64 p0.Slot, i64 p0.Goto]]⟩) (tips := [(0, { r := 12 }), (1, { T := [10], r := 12 }), (2, { r := 12 }), (3, { T := [10], r := 12 }), (4, { r := 12 }), (5, { T := [11], r := 12 }), (6, { r := 12 }), (7, { T := [11], r := 12 })]) (by kernel_rfl) all0 (norm ?_)
      rcases tf y2 with b22 | b22
      · replace h := cond_t b22 h
        obtain ⟨y23, hy23, h⟩ := bind_some h
        rcases tf y23 with b24 | b24
        · replace h := cond_t b24 h
          obtain ⟨y25, hy25, h⟩ := bind_some h
          refine At.rg [4, 6, 7] [0, 1, 2, 3, 4, 5, 6, 7, 8, 9, 10, 11] [(1, { orc := .val (.bool true) }), (5, { pc := some { ρ := [1], n0 := 1, res := bo y23, σ' := [.blk 26 (T_api_Code.pvs o1)], e := [1] } }), (7, { orc := .val (.bool true) }), (11, { pc := some { ρ := [2], n0 := 1, res := bo y25, σ' := [.blk 30 (T_api_Proc.pvs o2)], e := [1] } })] (by kernel_rfl) (allc (congrArg D.bool b22) (allc (C_proc_looks_3 p0.Chan o1 y23 hy23) (allc (congrArg D.bool b24) (allc (C_proc_looks_4 p0.Slot o2 y25 hy25) all0)))) (edq (l := []) (ks := [4, 6, 7]) (ρ := [0, 1, 2, 3, 4, 5, 6, 7, 8, 9, 10, 11]) (st' := ⟨[(4, .ptr 10 0), (6, .ptr 11 0), (7, bo y25)], [.blk 86 [.fn (.func 47) [] [.ptr 1 0, .ptr 2 0]], .blk 26 (T_api_Code.pvs o1), .blk 30 (T_api_Proc.pvs o2), .blk 86 [.fn (.func 48) [] [.ptr 1 0]], .blk 86 [.fn (.func 49) [] [.ptr 2 0]], .ghost (gv 0) (.ptr 0 0), .ghost (gv 1) (.ptr 1 0), .ghost (gv 2) (.ptr 2 0), .ghost (gv 3) (.ptr 3 0), .ghost (gv 4) (.ptr 4 0), .blk 63 (T_api_Alt.pvs p0), .blk 63 [i64 p0.Kind, i64 p0.Chan, i64 0, i64 p0.Slot, i64 p0.Goto]]⟩) (by kernel_rfl) (fun a w hs => ⟨(y25, p0.Chan, 0, p0.Slot), h, hs⟩))
        · replace h := cond_f b24 h
          refine At.rg [4, 6, 7] [0, 1, 2, 3, 4, 5, 6, 7, 8, 9, 10, 11] [(1, { orc := .val (.bool true) }), (5, { pc := some { ρ := [1], n0 := 1, res := bo y23, σ' := [.blk 26 (T_api_Code.pvs o1)], e := [1] } }), (7, { orc := .val (.bool false) })] (by kernel_rfl) (allc (congrArg D.bool b22) (allc (C_proc_looks_3 p0.Chan o1 y23 hy23) (allc (congrArg D.bool b24) all0))) (edq (l := []) (ks := [4, 6, 7]) (ρ := [0, 1, 2, 3, 4, 5, 6, 7, 8, 9, 10, 11]) (st' := ⟨[(4, .ptr 10 0), (6, .ptr 11 0), (7, bo false)], [.blk 86 [.fn (.func 47) [] [.ptr 1 0, .ptr 2 0]], .blk 26 (T_api_Code.pvs o1), .blk 30 (T_api_Proc.pvs o2), .blk 86 [.fn (.func 48) [] [.ptr 1 0]], .blk 86 [.fn (.func 49) [] [.ptr 2 0]], .ghost (gv 0) (.ptr 0 0), .ghost (gv 1) (.ptr 1 0), .ghost (gv 2) (.ptr 2 0), .ghost (gv 3) (.ptr 3 0), .ghost (gv 4) (.ptr 4 0), .blk 63 (T_api_Alt.pvs p0), .blk 63 [i64 p0.Kind, i64 p0.Chan, i64 0, i64 p0.Slot, i64 p0.Goto]]⟩) (by kernel_rfl) (fun a w hs => ⟨(false, p0.Chan, 0, p0.Slot), h, hs⟩))
      · replace h := cond_f b22 h
        refine At.rg [4, 6, 7] [0, 1, 2, 3, 4, 5, 6, 7, 8, 9, 10, 11] [(1, { orc := .val (.bool false) })] (by kernel_rfl) (allc (congrArg D.bool b22) all0) (edq (l := []) (ks := [4, 6, 7]) (ρ := [0, 1, 2, 3, 4, 5, 6, 7, 8, 9, 10, 11]) (st' := ⟨[(4, .ptr 10 0), (6, .ptr 11 0), (7, bo false)], [.blk 86 [.fn (.func 47) [] [.ptr 1 0, .ptr 2 0]], .blk 26 (T_api_Code.pvs o1), .blk 30 (T_api_Proc.pvs o2), .blk 86 [.fn (.func 48) [] [.ptr 1 0]], .blk 86 [.fn (.func 49) [] [.ptr 2 0]], .ghost (gv 0) (.ptr 0 0), .ghost (gv 1) (.ptr 1 0), .ghost (gv 2) (.ptr 2 0), .ghost (gv 3) (.ptr 3 0), .ghost (gv 4) (.ptr 4 0), .blk 63 (T_api_Alt.pvs p0), .blk 63 [i64 p0.Kind, i64 p0.Chan, i64 0, i64 p0.Slot, i64 p0.Goto]]⟩) (by kernel_rfl) (fun a w hs => ⟨(false, p0.Chan, 0, p0.Slot), h, hs⟩))
    · replace h := cond_f b21 h
      refine At.seq ?_
      refine At.region_end [2, 4, 6, 7, 18, 40] [0, 1, 2, 3, 4, 5, 6, 7, 8, 9, 10, 11] _ (st' := ⟨[(2, .ptr 3 0), (4, .ptr 10 0), (6, .ptr 11 0), (7, bo y2), (18, i64 p0.Kind), (40, bo (p0.Kind == 2))], [.blk 86 [.fn (.func 47) [] [.ptr 1 0, .ptr 2 0]], .blk 26 (T_api_Code.pvs o1), .blk 30 (T_api_Proc.pvs o2), .blk 86 [.fn (.func 48) [] [.ptr 1 0]], .blk 86 [.fn (.func 49) [] [.ptr 2 0]], .ghost (gv 0) (.ptr 0 0), .ghost (gv 1) (.ptr 1 0), .ghost (gv 2) (.ptr 2 0), .ghost (gv 3) (.ptr 3 0), .ghost (gv 4) (.ptr 4 0), .blk 63 (T_api_Alt.pvs p0), .blk 63 [i64 p0.Kind, i64 0, i64 0, i64 0, i64 p0.Goto]]⟩) (tips := []) (by kernel_rfl) all0 (norm ?_)
      refine At.cond (p0.Kind == 2) (by kernel_rfl) (fun b26 => ?_) (fun b26 => ?_)
      · replace h := cond_t b26 h
        refine At.seq ?_
        refine At.dg mixedOrd 0 [2, 4, 6, 7] [0, 1, 2, 3, 4, 5, 6, 7, 8, 9, 10, 11] [(0, { r := 12 }), (1, { T := [10], r := 12 }), (2, { r := 12 }), (3, { T := [10], r := 12 }), (4, { r := 12 }), (5, { T := [11], r := 12 }), (6, { r := 12 }), (7, { T := [11], r := 12 })] (by kernel_rfl) all0 (norm ?_)
        rcases tf y2 with b27 | b27
        · replace h := cond_t b27 h
          obtain ⟨y28, hy28, h⟩ := bind_some h
          refine At.rg [4, 6, 7] [0, 1, 2, 3, 4, 5, 6, 7, 8, 9, 10, 11] [(1, { orc := .val (.bool true) }), (5, { pc := some { ρ := [1], n0 := 1, res := bo y28, σ' := [.blk 26 (T_api_Code.pvs o1)], e := [1] } })] (by kernel_rfl) (allc (congrArg D.bool b27) (allc (C_proc_looks_3 p0.Chan o1 y28 hy28) all0)) (edq (l := []) (ks := [4, 6, 7]) (ρ := [0, 1, 2, 3, 4, 5, 6, 7, 8, 9, 10, 11]) (st' := ⟨[(4, .ptr 10 0), (6, .ptr 11 0), (7, bo y28)], [.blk 86 [.fn (.func 47) [] [.ptr 1 0, .ptr 2 0]], .blk 26 (T_api_Code.pvs o1), .blk 30 (T_api_Proc.pvs o2), .blk 86 [.fn (.func 48) [] [.ptr 1 0]], .blk 86 [.fn (.func 49) [] [.ptr 2 0]], .ghost (gv 0) (.ptr 0 0), .ghost (gv 1) (.ptr 1 0), .ghost (gv 2) (.ptr 2 0), .ghost (gv 3) (.ptr 3 0), .ghost (gv 4) (.ptr 4 0), .blk 63 (T_api_Alt.pvs p0), .blk 63 [i64 p0.Kind, i64 p0.Chan, i64 p0.Val, i64 0, i64 p0.Goto]]⟩) (by kernel_rfl) (fun a w hs => ⟨(y28, p0.Chan, p0.Val, 0), h, hs⟩))
        · replace h := cond_f b27 h
          refine At.rg [4, 6, 7] [0, 1, 2, 3, 4, 5, 6, 7, 8, 9, 10, 11] [(1, { orc := .val (.bool false) })] (by kernel_rfl) (allc (congrArg D.bool b27) all0) (edq (l := []) (ks := [4, 6, 7]) (ρ := [0, 1, 2, 3, 4, 5, 6, 7, 8, 9, 10, 11]) (st' := ⟨[(4, .ptr 10 0), (6, .ptr 11 0), (7, bo false)], [.blk 86 [.fn (.func 47) [] [.ptr 1 0, .ptr 2 0]], .blk 26 (T_api_Code.pvs o1), .blk 30 (T_api_Proc.pvs o2), .blk 86 [.fn (.func 48) [] [.ptr 1 0]], .blk 86 [.fn (.func 49) [] [.ptr 2 0]], .ghost (gv 0) (.ptr 0 0), .ghost (gv 1) (.ptr 1 0), .ghost (gv 2) (.ptr 2 0), .ghost (gv 3) (.ptr 3 0), .ghost (gv 4) (.ptr 4 0), .blk 63 (T_api_Alt.pvs p0), .blk 63 [i64 p0.Kind, i64 p0.Chan, i64 p0.Val, i64 0, i64 p0.Goto]]⟩) (by kernel_rfl) (fun a w hs => ⟨(false, p0.Chan, p0.Val, 0), h, hs⟩))
      · replace h := cond_f b26 h
        refine At.seq ?_
        refine At.rg [4, 6, 7, 55] [0, 1, 2, 3, 4, 5, 6, 7, 8, 9, 10, 11] [] (by kernel_rfl) all0 (norm ?_)
        refine At.cond (p0.Kind == 3) (by kernel_rfl) (fun b29 => ?_) (fun b29 => ?_)
        · replace h := cond_t b29 h
          refine At.seq ?_
          refine At.rg [4, 6, 7] [0, 1, 2, 3, 4, 5, 6, 7, 8, 9, 10, 11] [] (by kernel_rfl) all0 (norm ?_)
          rcases tf y2 with b30 | b30
          · replace h := cond_t b30 h
            obtain ⟨y31, hy31, h⟩ := bind_some h
            refine At.rg [4, 6, 7] [0, 1, 2, 3, 4, 5, 6, 7, 8, 9, 10, 11] [(1, { orc := .val (.bool true) }), (4, { pc := some { ρ := [], n0 := 0, res := bo y31, σ' := [], e := [] } })] (by kernel_rfl) (allc (congrArg D.bool b30) (allc (C_proc_within p0.Val 1099511627776 y31 hy31) all0)) (edq (l := []) (ks := [4, 6, 7]) (ρ := [0, 1, 2, 3, 4, 5, 6, 7, 8, 9, 10, 11]) (st' := ⟨[(4, .ptr 10 0), (6, .ptr 11 0), (7, bo y31)], [.blk 86 [.fn (.func 47) [] [.ptr 1 0, .ptr 2 0]], .blk 26 (T_api_Code.pvs o1), .blk 30 (T_api_Proc.pvs o2), .blk 86 [.fn (.func 48) [] [.ptr 1 0]], .blk 86 [.fn (.func 49) [] [.ptr 2 0]], .ghost (gv 0) (.ptr 0 0), .ghost (gv 1) (.ptr 1 0), .ghost (gv 2) (.ptr 2 0), .ghost (gv 3) (.ptr 3 0), .ghost (gv 4) (.ptr 4 0), .blk 63 (T_api_Alt.pvs p0), .blk 63 [i64 p0.Kind, i64 0, i64 p0.Val, i64 0, i64 p0.Goto]]⟩) (by kernel_rfl) (fun a w hs => ⟨(y31, 0, p0.Val, 0), h, hs⟩))
          · replace h := cond_f b30 h
            refine At.rg [4, 6, 7] [0, 1, 2, 3, 4, 5, 6, 7, 8, 9, 10, 11] [(1, { orc := .val (.bool false) })] (by kernel_rfl) (allc (congrArg D.bool b30) all0) (edq (l := []) (ks := [4, 6, 7]) (ρ := [0, 1, 2, 3, 4, 5, 6, 7, 8, 9, 10, 11]) (st' := ⟨[(4, .ptr 10 0), (6, .ptr 11 0), (7, bo false)], [.blk 86 [.fn (.func 47) [] [.ptr 1 0, .ptr 2 0]], .blk 26 (T_api_Code.pvs o1), .blk 30 (T_api_Proc.pvs o2), .blk 86 [.fn (.func 48) [] [.ptr 1 0]], .blk 86 [.fn (.func 49) [] [.ptr 2 0]], .ghost (gv 0) (.ptr 0 0), .ghost (gv 1) (.ptr 1 0), .ghost (gv 2) (.ptr 2 0), .ghost (gv 3) (.ptr 3 0), .ghost (gv 4) (.ptr 4 0), .blk 63 (T_api_Alt.pvs p0), .blk 63 [i64 p0.Kind, i64 0, i64 p0.Val, i64 0, i64 p0.Goto]]⟩) (by kernel_rfl) (fun a w hs => ⟨(false, 0, p0.Val, 0), h, hs⟩))
        · replace h := cond_f b29 h
          refine At.seq ?_
          refine At.rg [5] [0, 1, 2, 3, 4, 5, 6, 7, 8, 9] [] (by kernel_rfl) all0 (norm ?_)
          obtain rfl := some_eq h
          exact At.ret fun a w hs => ret_ok hR (ρ := [0, 1, 2, 3, 4]) (gs := [.ghost (gv 0) (.ptr 0 0), .ghost (gv 1) (.ptr 1 0), .ghost (gv 2) (.ptr 2 0), .ghost (gv 3) (.ptr 3 0), .ghost (gv 4) (.ptr 4 0)]) (by kernel_rfl) all0 (by kernel_rfl) rfl rfl a w hs _ (.inl rfl)
  · rintro ⟨x14, x15, x16, x17⟩ h
    replace h : F_proc_looks_5_J1 p0 x14 x15 x16 x17 = some r := h
    rw [F_proc_looks_5_J1] at h
    refine At.seqJ (S := Bool) (fun s => ⟨[(5, bo s)], [.blk 86 [.fn (.func 47) [] [.ptr 1 0, .ptr 2 0]], .blk 26 (T_api_Code.pvs o1), .blk 30 (T_api_Proc.pvs o2), .blk 86 [.fn (.func 48) [] [.ptr 1 0]], .blk 86 [.fn (.func 49) [] [.ptr 2 0]], .ghost (gv 0) (.ptr 0 0), .ghost (gv 1) (.ptr 1 0), .ghost (gv 2) (.ptr 2 0), .ghost (gv 3) (.ptr 3 0), .ghost (gv 4) (.ptr 4 0)]⟩) (fun s => F_proc_looks_5_J2 s = some r) ?_ ?_
    · rcases tf x14 with b20 | b20
      · replace h := cond_t b20 h
        refine At.rg [5] [0, 1, 2, 3, 4, 5, 6, 7, 8, 9] [(1, { orc := .val (.bool true) })] (by kernel_rfl) (allc (congrArg D.bool b20) all0) (edq (l := []) (ks := [5]) (ρ := [0, 1, 2, 3, 4, 5, 6, 7, 8, 9]) (st' := ⟨[(5, bo ((p0.Kind == p0.Kind) && ((x15 == p0.Chan) && ((x16 == p0.Val) && ((x17 == p0.Slot) && ((p0.Goto == p0.Goto) && true))))))], [.blk 86 [.fn (.func 47) [] [.ptr 1 0, .ptr 2 0]], .blk 26 (T_api_Code.pvs o1), .blk 30 (T_api_Proc.pvs o2), .blk 86 [.fn (.func 48) [] [.ptr 1 0]], .blk 86 [.fn (.func 49) [] [.ptr 2 0]], .ghost (gv 0) (.ptr 0 0), .ghost (gv 1) (.ptr 1 0), .ghost (gv 2) (.ptr 2 0), .ghost (gv 3) (.ptr 3 0), .ghost (gv 4) (.ptr 4 0)]⟩) (by kernel_rfl) (fun a w hs => ⟨((p0.Kind == p0.Kind) && ((x15 == p0.Chan) && ((x16 == p0.Val) && ((x17 == p0.Slot) && ((p0.Goto == p0.Goto) && true))))), h, hs⟩))
      · replace h := cond_f b20 h
        refine At.rg [5] [0, 1, 2, 3, 4, 5, 6, 7, 8, 9] [(1, { orc := .val (.bool false) })] (by kernel_rfl) (allc (congrArg D.bool b20) all0) (edq (l := []) (ks := [5]) (ρ := [0, 1, 2, 3, 4, 5, 6, 7, 8, 9]) (st' := ⟨[(5, bo false)], [.blk 86 [.fn (.func 47) [] [.ptr 1 0, .ptr 2 0]], .blk 26 (T_api_Code.pvs o1), .blk 30 (T_api_Proc.pvs o2), .blk 86 [.fn (.func 48) [] [.ptr 1 0]], .blk 86 [.fn (.func 49) [] [.ptr 2 0]], .ghost (gv 0) (.ptr 0 0), .ghost (gv 1) (.ptr 1 0), .ghost (gv 2) (.ptr 2 0), .ghost (gv 3) (.ptr 3 0), .ghost (gv 4) (.ptr 4 0)]⟩) (by kernel_rfl) (fun a w hs => ⟨false, h, hs⟩))
    · intro x19 h
      replace h : F_proc_looks_5_J2 x19 = some r := h
      rw [F_proc_looks_5_J2] at h
      obtain rfl := some_eq h
      exact At.ret fun a w hs => ret_ok hR (ρ := [0, 1, 2, 3, 4]) (gs := [.ghost (gv 0) (.ptr 0 0), .ghost (gv 1) (.ptr 1 0), .ghost (gv 2) (.ptr 2 0), .ghost (gv 3) (.ptr 3 0), .ghost (gv 4) (.ptr 4 0)]) (by kernel_rfl) all0 (by kernel_rfl) rfl rfl a w hs _ (.inl rfl)
set_option maxRecDepth 100000 in
theorem C_proc_looks_8_1 (p0 : T_api_Alt) (o2 : T_api_Code) (o3 : T_api_Proc) (r : Bool) (h : F_proc_looks_8_1 p0 o2 o3 = some r) : FnOK Tryz.prog 55 [.agg (T_api_Alt.pvs p0), .ptr 0 0] [.blk 87 [.fn (.func 50) [] [.ptr 1 0, .ptr 4 0, .ptr 5 0]], .blk 86 [.fn (.func 47) [] [.ptr 2 0, .ptr 3 0]], .blk 26 (T_api_Code.pvs o2), .blk 30 (T_api_Proc.pvs o3), .blk 86 [.fn (.func 48) [] [.ptr 2 0]], .blk 86 [.fn (.func 49) [] [.ptr 3 0]]] (bo r) [.blk 87 [.fn (.func 50) [] [.ptr 1 0, .ptr 4 0, .ptr 5 0]], .blk 86 [.fn (.func 47) [] [.ptr 2 0, .ptr 3 0]], .blk 26 (T_api_Code.pvs o2), .blk 30 (T_api_Proc.pvs o3), .blk 86 [.fn (.func 48) [] [.ptr 2 0]], .blk 86 [.fn (.func 49) [] [.ptr 3 0]]] [1, 3, 5, 7, 9, 11] := by
  rw [F_proc_looks_8_1] at h
  refine FnOK.intro Tryz.func55 rfl (by kernel_rfl) (by kernel_rfl) fun E gv R hR => ?_
  refine At.seq ?_
  refine At.rg [1, 2] [0, 1, 2, 3, 4, 5, 6, 7, 8, 9, 10, 11, 12] [] (by kernel_rfl) all0 (norm ?_)
  refine At.seq ?_
  obtain ⟨y2, hy2, h⟩ := bind_some h
  refine At.rg [3] [0, 1, 2, 3, 4, 5, 6, 7, 8, 9, 10, 11] [(2, { pc := some { ρ := [1, 2, 3, 4, 5], n0 := 5, res := bo y2, σ' := [.blk 86 [.fn (.func 47) [] [.ptr 1 0, .ptr 2 0]], .blk 26 (T_api_Code.pvs o2), .blk 30 (T_api_Proc.pvs o3), .blk 86 [.fn (.func 48) [] [.ptr 1 0]], .blk 86 [.fn (.func 49) [] [.ptr 2 0]]], e := [1, 3, 5, 7, 9] } })] (by kernel_rfl) (allc (C_proc_looks_5 p0 o2 o3 y2 hy2) all0) (norm ?_)
  obtain rfl := some_eq h
  exact At.ret fun a w hs => ret_ok hR (ρ := [0, 1, 2, 3, 4, 5]) (gs := [.ghost (gv 0) (.ptr 0 0), .ghost (gv 1) (.ptr 1 0), .ghost (gv 2) (.ptr 2 0), .ghost (gv 3) (.ptr 3 0), .ghost (gv 4) (.ptr 4 0), .ghost (gv 5) (.ptr 5 0)]) (by kernel_rfl) all0 (by kernel_rfl) rfl rfl a w hs _ (.inl rfl)
set_option maxRecDepth 100000 in
theorem C_slices_IndexFunc_retrace_api_Alt_retrace_api_Alt (p0 : (List T_api_Alt)) (o2 : T_api_Code) (o3 : T_api_Proc) (r : Int) (h : F_slices_IndexFunc_retrace_api_Alt_retrace_api_Alt p0 o2 o3 = some r) : FnOK Tryz.prog 78 [lv T_api_Alt.enc p0, .fn (.func 55) [] [.ptr 0 0]] [.blk 87 [.fn (.func 50) [] [.ptr 1 0, .ptr 4 0, .ptr 5 0]], .blk 86 [.fn (.func 47) [] [.ptr 2 0, .ptr 3 0]], .blk 26 (T_api_Code.pvs o2), .blk 30 (T_api_Proc.pvs o3), .blk 86 [.fn (.func 48) [] [.ptr 2 0]], .blk 86 [.fn (.func 49) [] [.ptr 3 0]]] (i64 r) [.blk 87 [.fn (.func 50) [] [.ptr 1 0, .ptr 4 0, .ptr 5 0]], .blk 86 [.fn (.func 47) [] [.ptr 2 0, .ptr 3 0]], .blk 26 (T_api_Code.pvs o2), .blk 30 (T_api_Proc.pvs o3), .blk 86 [.fn (.func 48) [] [.ptr 2 0]], .blk 86 [.fn (.func 49) [] [.ptr 3 0]]] [1, 3, 5, 7, 9, 11] := by
  rw [F_slices_IndexFunc_retrace_api_Alt_retrace_api_Alt] at h
  refine FnOK.intro Tryz.func78 rfl (by kernel_rfl) (by kernel_rfl) fun E gv R hR => ?_
  refine At.seq ?_
  refine At.rg [0, 1] [0, 1, 2, 3, 4, 5, 6, 7, 8, 9, 10, 11] [] (by kernel_rfl) all0 (norm ?_)
  refine At.seq ?_
  refine At.seq ?_
  refine At.rg [0, 1, 7, 8] [0, 1, 2, 3, 4, 5, 6, 7, 8, 9, 10, 11] [] (by kernel_rfl) all0 (norm ?_)
  refine At.block ?_
  refine At.nar [0, 1, 7, 8] [0, 1, 2, 3, 4, 5, 6, 7, 8, 9, 10, 11] (st' := ⟨[(0, lv T_api_Alt.enc p0), (1, .fn (.func 55) [] [.ptr 0 0]), (7, i64 ((p0).length : Int)), (8, i64 0)], [.blk 87 [.fn (.func 50) [] [.ptr 1 0, .ptr 4 0, .ptr 5 0]], .blk 86 [.fn (.func 47) [] [.ptr 2 0, .ptr 3 0]], .blk 26 (T_api_Code.pvs o2), .blk 30 (T_api_Proc.pvs o3), .blk 86 [.fn (.func 48) [] [.ptr 2 0]], .blk 86 [.fn (.func 49) [] [.ptr 3 0]], .ghost (gv 0) (.ptr 0 0), .ghost (gv 1) (.ptr 1 0), .ghost (gv 2) (.ptr 2 0), .ghost (gv 3) (.ptr 3 0), .ghost (gv 4) (.ptr 4 0), .ghost (gv 5) (.ptr 5 0)]⟩) (by kernel_rfl) ?_
  refine At.loop (fun s : (Int) => F_slices_IndexFunc_retrace_api_Alt_retrace_api_Alt_L1 p0 o2 o3 s) (fun s : (Int) => ⟨[(0, lv T_api_Alt.enc p0), (1, .fn (.func 55) [] [.ptr 0 0]), (7, i64 ((p0).length : Int)), (8, i64 s)], [.blk 87 [.fn (.func 50) [] [.ptr 1 0, .ptr 4 0, .ptr 5 0]], .blk 86 [.fn (.func 47) [] [.ptr 2 0, .ptr 3 0]], .blk 26 (T_api_Code.pvs o2), .blk 30 (T_api_Proc.pvs o3), .blk 86 [.fn (.func 48) [] [.ptr 2 0]], .blk 86 [.fn (.func 49) [] [.ptr 3 0]], .ghost (gv 0) (.ptr 0 0), .ghost (gv 1) (.ptr 1 0), .ghost (gv 2) (.ptr 2 0), .ghost (gv 3) (.ptr 3 0), .ghost (gv 4) (.ptr 4 0), .ghost (gv 5) (.ptr 5 0)]⟩) r 0 h ?_
  intro x20 oo21 h f22
  replace h : F_slices_IndexFunc_retrace_api_Alt_retrace_api_Alt_L1 p0 o2 o3 x20 = some oo21 := h
  rw [F_slices_IndexFunc_retrace_api_Alt_retrace_api_Alt_L1] at h
  refine At.seq ?_
  refine At.rg [0, 1, 7, 8, 9] [0, 1, 2, 3, 4, 5, 6, 7, 8, 9, 10, 11] [] (by kernel_rfl) all0 (norm ?_)
  refine At.seq ?_
  refine At.cond (decide (x20 < ((p0).length : Int))) (by kernel_rfl) (fun b24 => ?_) (fun b24 => ?_)
  · replace h := cond_t b24 h
    refine At.nr [0, 1, 7, 8] [0, 1, 2, 3, 4, 5, 6, 7, 8, 9, 10, 11] (by kernel_rfl) ?_
    refine At.skip (norm ?_)
    refine At.seq ?_
    refine At.block ?_
    refine At.seq ?_
    refine At.rg [0, 1, 5, 7, 8] [0, 1, 2, 3, 4, 5, 6, 7, 8, 9, 10, 11] [] (by kernel_rfl) all0 (norm ?_)
    refine At.seq ?_
    obtain ⟨y32, hy32, h⟩ := bind_some h
    obtain ⟨y33, hy33, h⟩ := bind_some h
    refine At.rg [0, 1, 5, 7, 8, 16] [0, 1, 2, 3, 4, 5, 6, 7, 8, 9, 10, 11] [(3, { orc := .cells (T_api_Alt.enc y32) }), (5, { pc := some { ρ := [0, 1, 2, 3, 4, 5], n0 := 6, res := bo y33, σ' := [.blk 87 [.fn (.func 50) [] [.ptr 1 0, .ptr 4 0, .ptr 5 0]], .blk 86 [.fn (.func 47) [] [.ptr 2 0, .ptr 3 0]], .blk 26 (T_api_Code.pvs o2), .blk 30 (T_api_Proc.pvs o3), .blk 86 [.fn (.func 48) [] [.ptr 2 0]], .blk 86 [.fn (.func 49) [] [.ptr 3 0]]], e := [1, 3, 5, 7, 9, 11] } })] (by kernel_rfl) (allc (elemAt_of T_api_Alt.enc_len hy32) (allc (C_proc_looks_8_1 y32 o2 o3 y33 hy33) all0)) (norm ?_)
    refine At.cond y33 (by kernel_rfl) (fun b34 => ?_) (fun b34 => ?_)
    · replace h := cond_t b34 h
      refine At.seq ?_
      refine At.rg [4] [0, 1, 2, 3, 4, 5, 6, 7, 8, 9, 10, 11] [] (by kernel_rfl) all0 (norm ?_)
      obtain ⟨r35, h, e36⟩ := map_inr h
      rw [f22 _ e36] at h
      obtain rfl := some_eq h
      exact At.ret fun a w hs => ret_ok hR (ρ := [0, 1, 2, 3, 4, 5]) (gs := [.ghost (gv 0) (.ptr 0 0), .ghost (gv 1) (.ptr 1 0), .ghost (gv 2) (.ptr 2 0), .ghost (gv 3) (.ptr 3 0), .ghost (gv 4) (.ptr 4 0), .ghost (gv 5) (.ptr 5 0)]) (by kernel_rfl) all0 (by kernel_rfl) rfl rfl a w hs _ (.inl rfl)
    · replace h := cond_f b34 h
      refine At.nr [0, 1, 7, 8] [0, 1, 2, 3, 4, 5, 6, 7, 8, 9, 10, 11] (by kernel_rfl) ?_
      refine At.skip (norm ?_)
      refine At.region_end [0, 1, 7, 8] [0, 1, 2, 3, 4, 5, 6, 7, 8, 9, 10, 11] _ (st' := ⟨[(0, lv T_api_Alt.enc p0), (1, .fn (.func 55) [] [.ptr 0 0]), (7, i64 ((p0).length : Int)), (8, i64 (w64 (x20 + 1)))], [.blk 87 [.fn (.func 50) [] [.ptr 1 0, .ptr 4 0, .ptr 5 0]], .blk 86 [.fn (.func 47) [] [.ptr 2 0, .ptr 3 0]], .blk 26 (T_api_Code.pvs o2), .blk 30 (T_api_Proc.pvs o3), .blk 86 [.fn (.func 48) [] [.ptr 2 0]], .blk 86 [.fn (.func 49) [] [.ptr 3 0]], .ghost (gv 0) (.ptr 0 0), .ghost (gv 1) (.ptr 1 0), .ghost (gv 2) (.ptr 2 0), .ghost (gv 3) (.ptr 3 0), .ghost (gv 4) (.ptr 4 0), .ghost (gv 5) (.ptr 5 0)]⟩) (tips := []) (by kernel_rfl) all0 (fun a w hs => ⟨_, (some_eq h).symm, hs⟩)
  · replace h := cond_f b24 h
    refine At.nr [] [0, 1, 2, 3, 4, 5, 6, 7, 8, 9, 10, 11] (by kernel_rfl) ?_
    obtain ⟨r37, h, e38⟩ := map_inr h
    rw [f22 _ e38] at h
    refine At.exit (norm ?_)
    refine At.seq ?_
    refine At.rg [4] [0, 1, 2, 3, 4, 5, 6, 7, 8, 9, 10, 11] [] (by kernel_rfl) all0 (norm ?_)
    obtain rfl := some_eq h
    exact At.ret fun a w hs => ret_ok hR (ρ := [0, 1, 2, 3, 4, 5]) (gs := [.ghost (gv 0) (.ptr 0 0), .ghost (gv 1) (.ptr 1 0), .ghost (gv 2) (.ptr 2 0), .ghost (gv 3) (.ptr 3 0), .ghost (gv 4) (.ptr 4 0), .ghost (gv 5) (.ptr 5 0)]) (by kernel_rfl) all0 (by kernel_rfl) rfl rfl a w hs _ (.inl rfl)
set_option maxRecDepth 100000 in
theorem C_slices_ContainsFunc_retrace_api_Alt_retrace_api_Alt (p0 : (List T_api_Alt)) (o2 : T_api_Code) (o3 : T_api_Proc) (r : Bool) (h : F_slices_ContainsFunc_retrace_api_Alt_retrace_api_Alt p0 o2 o3 = some r) : FnOK Tryz.prog 54 [lv T_api_Alt.enc p0, .fn (.func 55) [] [.ptr 0 0]] [.blk 87 [.fn (.func 50) [] [.ptr 1 0, .ptr 4 0, .ptr 5 0]], .blk 86 [.fn (.func 47) [] [.ptr 2 0, .ptr 3 0]], .blk 26 (T_api_Code.pvs o2), .blk 30 (T_api_Proc.pvs o3), .blk 86 [.fn (.func 48) [] [.ptr 2 0]], .blk 86 [.fn (.func 49) [] [.ptr 3 0]]] (bo r) [.blk 87 [.fn (.func 50) [] [.ptr 1 0, .ptr 4 0, .ptr 5 0]], .blk 86 [.fn (.func 47) [] [.ptr 2 0, .ptr 3 0]], .blk 26 (T_api_Code.pvs o2), .blk 30 (T_api_Proc.pvs o3), .blk 86 [.fn (.func 48) [] [.ptr 2 0]], .blk 86 [.fn (.func 49) [] [.ptr 3 0]]] [1, 3, 5, 7, 9, 11] := by
  rw [F_slices_ContainsFunc_retrace_api_Alt_retrace_api_Alt] at h
  refine FnOK.intro Tryz.func54 rfl (by kernel_rfl) (by kernel_rfl) fun E gv R hR => ?_
  refine At.seq ?_
  refine At.rg [0, 1] [0, 1, 2, 3, 4, 5, 6, 7, 8, 9, 10, 11] [] (by kernel_rfl) all0 (norm ?_)
  refine At.seq ?_
  obtain ⟨y2, hy2, h⟩ := bind_some h
  refine At.rg [4] [0, 1, 2, 3, 4, 5, 6, 7, 8, 9, 10, 11] [(2, { pc := some { ρ := [0, 1, 2, 3, 4, 5], n0 := 6, res := i64 y2, σ' := [.blk 87 [.fn (.func 50) [] [.ptr 1 0, .ptr 4 0, .ptr 5 0]], .blk 86 [.fn (.func 47) [] [.ptr 2 0, .ptr 3 0]], .blk 26 (T_api_Code.pvs o2), .blk 30 (T_api_Proc.pvs o3), .blk 86 [.fn (.func 48) [] [.ptr 2 0]], .blk 86 [.fn (.func 49) [] [.ptr 3 0]]], e := [1, 3, 5, 7, 9, 11] } })] (by kernel_rfl) (allc (C_slices_IndexFunc_retrace_api_Alt_retrace_api_Alt p0 o2 o3 y2 hy2) all0) (norm ?_)
  obtain rfl := some_eq h
  exact At.ret fun a w hs => ret_ok hR (ρ := [0, 1, 2, 3, 4, 5]) (gs := [.ghost (gv 0) (.ptr 0 0), .ghost (gv 1) (.ptr 1 0), .ghost (gv 2) (.ptr 2 0), .ghost (gv 3) (.ptr 3 0), .ghost (gv 4) (.ptr 4 0), .ghost (gv 5) (.ptr 5 0)]) (by kernel_rfl) all0 (by kernel_rfl) rfl rfl a w hs _ (.inl rfl)
set_option maxRecDepth 100000 in
theorem C_proc_looks_8 (o1 : T_api_Code) (o2 : T_api_Proc) (r : Bool) (h : F_proc_looks_8 o1 o2 = some r) : FnOK Tryz.prog 53 [.ptr 0 0, .ptr 2 0, .ptr 3 0] [.blk 33 [.fn (.func 45) [] [.ptr 1 0, .ptr 2 0]], .blk 26 (T_api_Code.pvs o1), .blk 30 (T_api_Proc.pvs o2), .blk 87 [.fn (.func 50) [] [.ptr 4 0, .ptr 5 0, .ptr 6 0]], .blk 86 [.fn (.func 47) [] [.ptr 1 0, .ptr 2 0]], .blk 86 [.fn (.func 48) [] [.ptr 1 0]], .blk 86 [.fn (.func 49) [] [.ptr 2 0]]] (bo r) [.blk 33 [.fn (.func 45) [] [.ptr 1 0, .ptr 2 0]], .blk 26 (T_api_Code.pvs o1), .blk 30 (T_api_Proc.pvs o2), .blk 87 [.fn (.func 50) [] [.ptr 4 0, .ptr 5 0, .ptr 6 0]], .blk 86 [.fn (.func 47) [] [.ptr 1 0, .ptr 2 0]], .blk 86 [.fn (.func 48) [] [.ptr 1 0]], .blk 86 [.fn (.func 49) [] [.ptr 2 0]]] [1, 3, 5, 7, 9, 11, 13] := by
  rw [F_proc_looks_8] at h
  refine FnOK.intro Tryz.func53 rfl (by kernel_rfl) (by kernel_rfl) fun E gv R hR => ?_
  refine At.seq ?_
  refine At.rg [0, 1, 2] [0, 1, 2, 3, 4, 5, 6, 7, 8, 9, 10, 11, 12, 13] [] (by kernel_rfl) all0 (norm ?_)
  refine At.seqJ (S := Bool) (fun s => ⟨[(3, bo s)], [.blk 33 [.fn (.func 45) [] [.ptr 1 0, .ptr 2 0]], .blk 26 (T_api_Code.pvs o1), .blk 30 (T_api_Proc.pvs o2), .blk 87 [.fn (.func 50) [] [.ptr 4 0, .ptr 5 0, .ptr 6 0]], .blk 86 [.fn (.func 47) [] [.ptr 1 0, .ptr 2 0]], .blk 86 [.fn (.func 48) [] [.ptr 1 0]], .blk 86 [.fn (.func 49) [] [.ptr 2 0]], .ghost (gv 0) (.ptr 0 0), .ghost (gv 1) (.ptr 1 0), .ghost (gv 2) (.ptr 2 0), .ghost (gv 3) (.ptr 3 0), .ghost (gv 4) (.ptr 4 0), .ghost (gv 5) (.ptr 5 0), .ghost (gv 6) (.ptr 6 0)]⟩) (fun s => F_proc_looks_8_J1 s = some r) ?_ ?_
  · obtain ⟨y5, hy5, h⟩ := bind_some h
    rcases tf y5 with b6 | b6
    · replace h := cond_t b6 h
      obtain ⟨y7, hy7, h⟩ := bind_some h
      refine At.rg [3] [0, 1, 2, 3, 4, 5, 6, 7, 8, 9, 10, 11, 12, 13] [(1, { pc := some { ρ := [1, 2], n0 := 2, res := bo y5, σ' := [.blk 26 (T_api_Code.pvs o1), .blk 30 (T_api_Proc.pvs o2)], e := [1, 3] } }), (2, { orc := .val (.bool true) }), (6, { pc := some { ρ := [3, 4, 1, 2, 5, 6], n0 := 6, res := bo y7, σ' := [.blk 87 [.fn (.func 50) [] [.ptr 1 0, .ptr 4 0, .ptr 5 0]], .blk 86 [.fn (.func 47) [] [.ptr 2 0, .ptr 3 0]], .blk 26 (T_api_Code.pvs o1), .blk 30 (T_api_Proc.pvs o2), .blk 86 [.fn (.func 48) [] [.ptr 2 0]], .blk 86 [.fn (.func 49) [] [.ptr 3 0]]], e := [1, 3, 5, 7, 9, 11] } })] (by kernel_rfl) (allc (C_proc_looks_1 o1 o2 y5 hy5) (allc (congrArg D.bool b6) (allc (C_slices_ContainsFunc_retrace_api_Alt_retrace_api_Alt o2.Alts o1 o2 y7 hy7) all0))) (edq (l := []) (ks := [3]) (ρ := [0, 1, 2, 3, 4, 5, 6, 7, 8, 9, 10, 11, 12, 13]) (st' := ⟨[(3, bo (!y7))], [.blk 33 [.fn (.func 45) [] [.ptr 1 0, .ptr 2 0]], .blk 26 (T_api_Code.pvs o1), .blk 30 (T_api_Proc.pvs o2), .blk 87 [.fn (.func 50) [] [.ptr 4 0, .ptr 5 0, .ptr 6 0]], .blk 86 [.fn (.func 47) [] [.ptr 1 0, .ptr 2 0]], .blk 86 [.fn (.func 48) [] [.ptr 1 0]], .blk 86 [.fn (.func 49) [] [.ptr 2 0]], .ghost (gv 0) (.ptr 0 0), .ghost (gv 1) (.ptr 1 0), .ghost (gv 2) (.ptr 2 0), .ghost (gv 3) (.ptr 3 0), .ghost (gv 4) (.ptr 4 0), .ghost (gv 5) (.ptr 5 0), .ghost (gv 6) (.ptr 6 0)]⟩) (by kernel_rfl) (fun a w hs => ⟨(!y7), h, hs⟩))
    · replace h := cond_f b6 h
      refine At.rg [3] [0, 1, 2, 3, 4, 5, 6, 7, 8, 9, 10, 11, 12, 13] [(1, { pc := some { ρ := [1, 2], n0 := 2, res := bo y5, σ' := [.blk 26 (T_api_Code.pvs o1), .blk 30 (T_api_Proc.pvs o2)], e := [1, 3] } }), (2, { orc := .val (.bool false) })] (by kernel_rfl) (allc (C_proc_looks_1 o1 o2 y5 hy5) (allc (congrArg D.bool b6) all0)) (edq (l := []) (ks := [3]) (ρ := [0, 1, 2, 3, 4, 5, 6, 7, 8, 9, 10, 11, 12, 13]) (st' := ⟨[(3, bo false)], [.blk 33 [.fn (.func 45) [] [.ptr 1 0, .ptr 2 0]], .blk 26 (T_api_Code.pvs o1), .blk 30 (T_api_Proc.pvs o2), .blk 87 [.fn (.func 50) [] [.ptr 4 0, .ptr 5 0, .ptr 6 0]], .blk 86 [.fn (.func 47) [] [.ptr 1 0, .ptr 2 0]], .blk 86 [.fn (.func 48) [] [.ptr 1 0]], .blk 86 [.fn (.func 49) [] [.ptr 2 0]], .ghost (gv 0) (.ptr 0 0), .ghost (gv 1) (.ptr 1 0), .ghost (gv 2) (.ptr 2 0), .ghost (gv 3) (.ptr 3 0), .ghost (gv 4) (.ptr 4 0), .ghost (gv 5) (.ptr 5 0), .ghost (gv 6) (.ptr 6 0)]⟩) (by kernel_rfl) (fun a w hs => ⟨false, h, hs⟩))
  · intro x4 h
    replace h : F_proc_looks_8_J1 x4 = some r := h
    rw [F_proc_looks_8_J1] at h
    obtain rfl := some_eq h
    exact At.ret fun a w hs => ret_ok hR (ρ := [0, 1, 2, 3, 4, 5, 6]) (gs := [.ghost (gv 0) (.ptr 0 0), .ghost (gv 1) (.ptr 1 0), .ghost (gv 2) (.ptr 2 0), .ghost (gv 3) (.ptr 3 0), .ghost (gv 4) (.ptr 4 0), .ghost (gv 5) (.ptr 5 0), .ghost (gv 6) (.ptr 6 0)]) (by kernel_rfl) all0 (by kernel_rfl) rfl rfl a w hs _ (.inl rfl)
set_option maxRecDepth 100000 in
theorem C_proc_looks_9 (o1 : T_api_Code) (o2 : T_api_Proc) (r : Bool) (h : F_proc_looks_9 o1 o2 = some r) : FnOK Tryz.prog 56 [.ptr 0 0, .ptr 2 0] [.blk 86 [.fn (.func 47) [] [.ptr 1 0, .ptr 2 0]], .blk 26 (T_api_Code.pvs o1), .blk 30 (T_api_Proc.pvs o2)] (bo r) [.blk 86 [.fn (.func 47) [] [.ptr 1 0, .ptr 2 0]], .blk 26 (T_api_Code.pvs o1), .blk 30 (T_api_Proc.pvs o2)] [1, 3, 5] := by
  rw [F_proc_looks_9] at h
  refine FnOK.intro Tryz.func56 rfl (by kernel_rfl) (by kernel_rfl) fun E gv R hR => ?_
  refine At.seq ?_
  refine At.rg [0, 1] [0, 1, 2, 3, 4, 5] [] (by kernel_rfl) all0 (norm ?_)
  refine At.seqJ (S := Bool) (fun s => ⟨[(2, bo s)], [.blk 86 [.fn (.func 47) [] [.ptr 1 0, .ptr 2 0]], .blk 26 (T_api_Code.pvs o1), .blk 30 (T_api_Proc.pvs o2), .ghost (gv 0) (.ptr 0 0), .ghost (gv 1) (.ptr 1 0), .ghost (gv 2) (.ptr 2 0)]⟩) (fun s => F_proc_looks_9_J1 s = some r) ?_ ?_
  · obtain ⟨y5, hy5, h⟩ := bind_some h
    rcases tf y5 with b6 | b6
    · replace h := cond_t b6 h
      obtain ⟨y7, hy7, h⟩ := bind_some h
      refine At.rg [2] [0, 1, 2, 3, 4, 5] [(3, { pc := some { ρ := [1, 2], n0 := 2, res := bo y5, σ' := [.blk 26 (T_api_Code.pvs o1), .blk 30 (T_api_Proc.pvs o2)], e := [1, 3] } }), (4, { orc := .val (.bool true) }), (7, { pc := some { ρ := [], n0 := 0, res := bo y7, σ' := [], e := [] } })] (by kernel_rfl) (allc (C_proc_looks_2 o2.At o1 o2 y5 hy5) (allc (congrArg D.bool b6) (allc (C_proc_within o2.Until 1099511627776 y7 hy7) all0))) (edq (l := []) (ks := [2]) (ρ := [0, 1, 2, 3, 4, 5]) (st' := ⟨[(2, bo y7)], [.blk 86 [.fn (.func 47) [] [.ptr 1 0, .ptr 2 0]], .blk 26 (T_api_Code.pvs o1), .blk 30 (T_api_Proc.pvs o2), .ghost (gv 0) (.ptr 0 0), .ghost (gv 1) (.ptr 1 0), .ghost (gv 2) (.ptr 2 0)]⟩) (by kernel_rfl) (fun a w hs => ⟨y7, h, hs⟩))
    · replace h := cond_f b6 h
      refine At.rg [2] [0, 1, 2, 3, 4, 5] [(3, { pc := some { ρ := [1, 2], n0 := 2, res := bo y5, σ' := [.blk 26 (T_api_Code.pvs o1), .blk 30 (T_api_Proc.pvs o2)], e := [1, 3] } }), (4, { orc := .val (.bool false) })] (by kernel_rfl) (allc (C_proc_looks_2 o2.At o1 o2 y5 hy5) (allc (congrArg D.bool b6) all0)) (edq (l := []) (ks := [2]) (ρ := [0, 1, 2, 3, 4, 5]) (st' := ⟨[(2, bo false)], [.blk 86 [.fn (.func 47) [] [.ptr 1 0, .ptr 2 0]], .blk 26 (T_api_Code.pvs o1), .blk 30 (T_api_Proc.pvs o2), .ghost (gv 0) (.ptr 0 0), .ghost (gv 1) (.ptr 1 0), .ghost (gv 2) (.ptr 2 0)]⟩) (by kernel_rfl) (fun a w hs => ⟨false, h, hs⟩))
  · intro x4 h
    replace h : F_proc_looks_9_J1 x4 = some r := h
    rw [F_proc_looks_9_J1] at h
    obtain rfl := some_eq h
    exact At.ret fun a w hs => ret_ok hR (ρ := [0, 1, 2]) (gs := [.ghost (gv 0) (.ptr 0 0), .ghost (gv 1) (.ptr 1 0), .ghost (gv 2) (.ptr 2 0)]) (by kernel_rfl) all0 (by kernel_rfl) rfl rfl a w hs _ (.inl rfl)
set_option maxRecDepth 100000 in
theorem C_proc_looks_10 (o0 : T_api_Proc) (r : Bool) (h : F_proc_looks_10 o0 = some r) : FnOK Tryz.prog 57 [.ptr 0 0] [.blk 30 (T_api_Proc.pvs o0)] (bo r) [.blk 30 (T_api_Proc.pvs o0)] [1] := by
  rw [F_proc_looks_10] at h
  refine FnOK.intro Tryz.func57 rfl (by kernel_rfl) (by kernel_rfl) fun E gv R hR => ?_
  refine At.seq ?_
  refine At.rg [0] [0, 1] [] (by kernel_rfl) all0 (norm ?_)
  refine At.seq ?_
  refine At.rg [1] [0, 1] [] (by kernel_rfl) all0 (norm ?_)
  obtain rfl := some_eq h
  exact At.ret fun a w hs => ret_ok hR (ρ := [0]) (gs := [.ghost (gv 0) (.ptr 0 0)]) (by kernel_rfl) all0 (by kernel_rfl) rfl rfl a w hs _ (.inl rfl)
set_option maxRecDepth 100000 in
theorem C_proc_Check (p0 : T_api_Code) (p1 : T_api_Proc) (r : Int) (h : F_proc_Check p0 p1 = some r) : FnOK Tryz.prog 10 [.agg (T_api_Code.pvs p0), .agg (T_api_Proc.pvs p1)] [] (i64 r) [] [] := by
  rw [F_proc_Check] at h
  refine FnOK.intro Tryz.func10 rfl (by kernel_rfl) (by kernel_rfl) fun E gv R hR => ?_
  refine At.seq ?_
  refine At.rg [2, 3] [0, 1] [] (by kernel_rfl) all0 (norm ?_)
  refine At.seqJ (S := Bool) (fun s => ⟨[(2, .ptr 0 0), (3, .ptr 1 0), (5, bo s)], [.blk 26 (T_api_Code.pvs p0), .blk 30 (T_api_Proc.pvs p1)]⟩) (fun s => F_proc_Check_J1 p0 p1 s = some r) ?_ ?_
  · obtain ⟨y97, hy97, h⟩ := bind_some h
    rcases tf y97 with b98 | b98
    · replace h := cond_t b98 h
      obtain ⟨y99, hy99, h⟩ := bind_some h
      rcases tf y99 with b100 | b100
      · replace h := cond_t b100 h
        obtain ⟨y101, hy101, h⟩ := bind_some h
        rcases tf y101 with b102 | b102
        · replace h := cond_t b102 h
          obtain ⟨y103, hy103, h⟩ := bind_some h
          refine At.rg [2, 3, 5] [0, 1] [(6, { pc := some { ρ := [], n0 := 0, res := bo y97, σ' := [], e := [] } }), (7, { orc := .val (.bool true) }), (10, { pc := some { ρ := [], n0 := 0, res := bo y99, σ' := [], e := [] } }), (12, { orc := .val (.bool true) }), (15, { pc := some { ρ := [], n0 := 0, res := bo y101, σ' := [], e := [] } }), (17, { orc := .val (.bool true) }), (20, { pc := some { ρ := [], n0 := 0, res := bo y103, σ' := [], e := [] } })] (by kernel_rfl) (allc (C_proc_within p1.Def (w64 (((p0.Defs).length : Int) - 1)) y97 hy97) (allc (congrArg D.bool b98) (allc (C_proc_within p1.Fuel 1048576 y99 hy99) (allc (congrArg D.bool b100) (allc (C_proc_within p1.Since 1099511627776 y101 hy101) (allc (congrArg D.bool b102) (allc (C_proc_within p1.Mode 6 y103 hy103) all0))))))) (edq (l := []) (ks := [2, 3, 5]) (ρ := [0, 1]) (st' := ⟨[(2, .ptr 0 0), (3, .ptr 1 0), (5, bo y103)], [.blk 26 (T_api_Code.pvs p0), .blk 30 (T_api_Proc.pvs p1)]⟩) (by kernel_rfl) (fun a w hs => ⟨y103, h, hs⟩))
        · replace h := cond_f b102 h
          refine At.rg [2, 3, 5] [0, 1] [(6, { pc := some { ρ := [], n0 := 0, res := bo y97, σ' := [], e := [] } }), (7, { orc := .val (.bool true) }), (10, { pc := some { ρ := [], n0 := 0, res := bo y99, σ' := [], e := [] } }), (12, { orc := .val (.bool true) }), (15, { pc := some { ρ := [], n0 := 0, res := bo y101, σ' := [], e := [] } }), (17, { orc := .val (.bool false) })] (by kernel_rfl) (allc (C_proc_within p1.Def (w64 (((p0.Defs).length : Int) - 1)) y97 hy97) (allc (congrArg D.bool b98) (allc (C_proc_within p1.Fuel 1048576 y99 hy99) (allc (congrArg D.bool b100) (allc (C_proc_within p1.Since 1099511627776 y101 hy101) (allc (congrArg D.bool b102) all0)))))) (edq (l := []) (ks := [2, 3, 5]) (ρ := [0, 1]) (st' := ⟨[(2, .ptr 0 0), (3, .ptr 1 0), (5, bo false)], [.blk 26 (T_api_Code.pvs p0), .blk 30 (T_api_Proc.pvs p1)]⟩) (by kernel_rfl) (fun a w hs => ⟨false, h, hs⟩))
      · replace h := cond_f b100 h
        refine At.rg [2, 3, 5] [0, 1] [(6, { pc := some { ρ := [], n0 := 0, res := bo y97, σ' := [], e := [] } }), (7, { orc := .val (.bool true) }), (10, { pc := some { ρ := [], n0 := 0, res := bo y99, σ' := [], e := [] } }), (12, { orc := .val (.bool false) })] (by kernel_rfl) (allc (C_proc_within p1.Def (w64 (((p0.Defs).length : Int) - 1)) y97 hy97) (allc (congrArg D.bool b98) (allc (C_proc_within p1.Fuel 1048576 y99 hy99) (allc (congrArg D.bool b100) all0)))) (edq (l := []) (ks := [2, 3, 5]) (ρ := [0, 1]) (st' := ⟨[(2, .ptr 0 0), (3, .ptr 1 0), (5, bo false)], [.blk 26 (T_api_Code.pvs p0), .blk 30 (T_api_Proc.pvs p1)]⟩) (by kernel_rfl) (fun a w hs => ⟨false, h, hs⟩))
    · replace h := cond_f b98 h
      refine At.rg [2, 3, 5] [0, 1] [(6, { pc := some { ρ := [], n0 := 0, res := bo y97, σ' := [], e := [] } }), (7, { orc := .val (.bool false) })] (by kernel_rfl) (allc (C_proc_within p1.Def (w64 (((p0.Defs).length : Int) - 1)) y97 hy97) (allc (congrArg D.bool b98) all0)) (edq (l := []) (ks := [2, 3, 5]) (ρ := [0, 1]) (st' := ⟨[(2, .ptr 0 0), (3, .ptr 1 0), (5, bo false)], [.blk 26 (T_api_Code.pvs p0), .blk 30 (T_api_Proc.pvs p1)]⟩) (by kernel_rfl) (fun a w hs => ⟨false, h, hs⟩))
  · intro x8 h
    replace h : F_proc_Check_J1 p0 p1 x8 = some r := h
    rw [F_proc_Check_J1] at h
    refine At.seq ?_
    refine At.seqJ (S := Bool) (fun s => ⟨[(59, bo s)], []⟩) (fun s => F_proc_Check_J2 s = some r) ?_ ?_
    · rcases tf (!x8) with b76 | b76
      · replace h := cond_t b76 h
        refine At.dg mixedOrd 0 [59] [] [(2, { tip := { orc := .val (.bool true) } }), (3, { r := 2 }), (5, { r := 2 }), (6, { r := 2 }), (8, { r := 2 }), (16, { T := [1], r := 2 }), (17, { r := 2 }), (18, { T := [1], r := 2 }), (19, { r := 2 }), (23, { T := [0], r := 2 }), (24, { T := [1], r := 2 }), (25, { r := 2 }), (26, { r := 2 }), (29, { r := 2 })] (by kernel_rfl) (allc (congrArg D.bool b76) all0) (edq (l := []) (ks := [59]) (ρ := []) (st' := ⟨[(59, bo true)], []⟩) (by kernel_rfl) (fun a w hs => ⟨true, h, hs⟩))
      · replace h := cond_f b76 h
        obtain ⟨y77, hy77, h⟩ := bind_some h
        rcases tf (((p1.Vars).length : Int) != y77.Vars) with b78 | b78
        · replace h := cond_t b78 h
          refine At.dg mixedOrd 0 [59] [] [(2, { tip := { orc := .val (.bool false) } }), (3, { r := 2 }), (4, { T := [1], r := 2 }), (5, { r := 2 }), (6, { r := 2 }), (7, { T := [0], r := 2 }), (8, { r := 2 }), (9, { T := [1], r := 2 }), (10, { tip := { orc := .cells (T_api_Def.enc y77) } }), (15, { tip := { orc := .val (.bool true) } }), (16, { T := [1], r := 2 }), (17, { r := 2 }), (18, { T := [1], r := 2 }), (19, { r := 2 }), (23, { T := [0], r := 2 }), (24, { T := [1], r := 2 }), (25, { r := 2 }), (26, { r := 2 }), (29, { r := 2 })] (by kernel_rfl) (allc (congrArg D.bool b76) (allc (elemAt_of T_api_Def.enc_len hy77) (allc (congrArg D.bool b78) all0))) (edq (l := []) (ks := [59]) (ρ := []) (st' := ⟨[(59, bo true)], []⟩) (by kernel_rfl) (fun a w hs => ⟨true, h, hs⟩))
        · replace h := cond_f b78 h
          obtain ⟨y79, hy79, h⟩ := bind_some h
          obtain ⟨y80, hy80, h⟩ := bind_some h
          rcases tf (!y80) with b81 | b81
          · replace h := cond_t b81 h
            refine At.dg mixedOrd 0 [59] [] [(2, { tip := { orc := .val (.bool false) } }), (3, { r := 2 }), (4, { T := [1], r := 2 }), (5, { r := 2 }), (6, { r := 2 }), (7, { T := [0], r := 2 }), (8, { r := 2 }), (9, { T := [1], r := 2 }), (10, { tip := { orc := .cells (T_api_Def.enc y77) } }), (15, { tip := { orc := .val (.bool false) } }), (16, { T := [1], r := 2 }), (17, { tip := { pc := some { ρ := [], n0 := 0, res := .agg (T_api_Proc.pvs y79), σ' := [], e := [] } }, r := 2 }), (18, { T := [1], r := 2 }), (19, { tip := { pc := some { ρ := [], n0 := 0, res := bo y80, σ' := [], e := [] } }, r := 2 }), (22, { tip := { orc := .val (.bool true) } }), (23, { T := [0], r := 2 }), (24, { T := [1], r := 2 }), (25, { r := 2 }), (26, { r := 2 }), (29, { r := 2 })] (by kernel_rfl) (allc (congrArg D.bool b76) (allc (elemAt_of T_api_Def.enc_len hy77) (allc (congrArg D.bool b78) (allc (C_proc_bare p1 y79 hy79) (allc (C_proc_Same y79 p1 y80 hy80) (allc (congrArg D.bool b81) all0)))))) (edq (l := []) (ks := [59]) (ρ := []) (st' := ⟨[(59, bo true)], []⟩) (by kernel_rfl) (fun a w hs => ⟨true, h, hs⟩))
          · replace h := cond_f b81 h
            obtain ⟨y82, hy82, h⟩ := bind_some h
            rcases tf (p1.Mode == 0) with b83 | b83
            · replace h := cond_t b83 h
              obtain ⟨y84, hy84, h⟩ := bind_some h
              refine At.dg mixedOrd 7 [59] [] [(2, { tip := { orc := .val (.bool false) } }), (3, { r := 2 }), (4, { T := [1], r := 2 }), (5, { r := 2 }), (6, { r := 2 }), (7, { T := [0], r := 2 }), (8, { r := 2 }), (9, { T := [1], r := 2 }), (10, { tip := { orc := .cells (T_api_Def.enc y77) } }), (15, { tip := { orc := .val (.bool false) } }), (16, { T := [1], r := 2 }), (17, { tip := { pc := some { ρ := [], n0 := 0, res := .agg (T_api_Proc.pvs y79), σ' := [], e := [] } }, r := 2 }), (18, { T := [1], r := 2 }), (19, { tip := { pc := some { ρ := [], n0 := 0, res := bo y80, σ' := [], e := [] } }, r := 2 }), (22, { tip := { orc := .val (.bool false) } }), (23, { T := [0], r := 2 }), (24, { T := [1], r := 2 }), (25, { tip := { pc := some { ρ := [2, 3, 4, 5, 6, 7, 8], n0 := 0, res := .agg [.fn (.func 45) [] [.ptr 0 0, .ptr 1 0], .fn (.func 51) [] [.ptr 2 0, .ptr 1 0, .ptr 3 0], .fn (.func 52) [] [.ptr 2 0, .ptr 1 0, .ptr 3 0, .ptr 4 0], .fn (.func 53) [] [.ptr 5 0, .ptr 1 0, .ptr 6 0], .fn (.func 56) [] [.ptr 2 0, .ptr 1 0], .fn (.func 57) [] [.ptr 1 0], .fn (.func 45) [] [.ptr 0 0, .ptr 1 0]], σ' := [.blk 26 (T_api_Code.pvs y82.1), .blk 30 (T_api_Proc.pvs y82.2), .blk 86 [.fn (.func 47) [] [.ptr 0 0, .ptr 1 0]], .blk 86 [.fn (.func 48) [] [.ptr 0 0]], .blk 86 [.fn (.func 49) [] [.ptr 1 0]], .blk 33 [.fn (.func 45) [] [.ptr 0 0, .ptr 1 0]], .blk 87 [.fn (.func 50) [] [.ptr 2 0, .ptr 3 0, .ptr 4 0]]], e := [] } }, r := 2 }), (26, { r := 9 }), (27, { T := [1], r := 9 }), (28, { tip := { orc := .val (.int .i64 0) }, r := 9 }), (29, { tip := { pc := some { ρ := [2, 3], n0 := 2, res := bo y84, σ' := [.blk 26 (T_api_Code.pvs y82.1), .blk 30 (T_api_Proc.pvs y82.2)], e := [1, 3] } }, T := [2, 3], r := 9 })] (by kernel_rfl) (allc (congrArg D.bool b76) (allc (elemAt_of T_api_Def.enc_len hy77) (allc (congrArg D.bool b78) (allc (C_proc_bare p1 y79 hy79) (allc (C_proc_Same y79 p1 y80 hy80) (allc (congrArg D.bool b81) (allc (C_proc_looks p0 p1 y82 hy82) (allc (eq_of_beq b83) (allc (within_lit 7 (eq_of_beq b83) rfl) (allc (C_proc_looks_1 y82.1 y82.2 y84 hy84) all0)))))))))) (edq (l := []) (ks := [59]) (ρ := []) (st' := ⟨[(59, bo (!y84))], []⟩) (by kernel_rfl) (fun a w hs => ⟨(!y84), h, hs⟩))
            · replace h := cond_f b83 h
              rcases tf (p1.Mode == 1) with b85 | b85
              · replace h := cond_t b85 h
                obtain ⟨y86, hy86, h⟩ := bind_some h
                refine At.dg mixedOrd 7 [59] [] [(2, { tip := { orc := .val (.bool false) } }), (3, { r := 2 }), (4, { T := [1], r := 2 }), (5, { r := 2 }), (6, { r := 2 }), (7, { T := [0], r := 2 }), (8, { r := 2 }), (9, { T := [1], r := 2 }), (10, { tip := { orc := .cells (T_api_Def.enc y77) } }), (15, { tip := { orc := .val (.bool false) } }), (16, { T := [1], r := 2 }), (17, { tip := { pc := some { ρ := [], n0 := 0, res := .agg (T_api_Proc.pvs y79), σ' := [], e := [] } }, r := 2 }), (18, { T := [1], r := 2 }), (19, { tip := { pc := some { ρ := [], n0 := 0, res := bo y80, σ' := [], e := [] } }, r := 2 }), (22, { tip := { orc := .val (.bool false) } }), (23, { T := [0], r := 2 }), (24, { T := [1], r := 2 }), (25, { tip := { pc := some { ρ := [2, 3, 4, 5, 6, 7, 8], n0 := 0, res := .agg [.fn (.func 45) [] [.ptr 0 0, .ptr 1 0], .fn (.func 51) [] [.ptr 2 0, .ptr 1 0, .ptr 3 0], .fn (.func 52) [] [.ptr 2 0, .ptr 1 0, .ptr 3 0, .ptr 4 0], .fn (.func 53) [] [.ptr 5 0, .ptr 1 0, .ptr 6 0], .fn (.func 56) [] [.ptr 2 0, .ptr 1 0], .fn (.func 57) [] [.ptr 1 0], .fn (.func 45) [] [.ptr 0 0, .ptr 1 0]], σ' := [.blk 26 (T_api_Code.pvs y82.1), .blk 30 (T_api_Proc.pvs y82.2), .blk 86 [.fn (.func 47) [] [.ptr 0 0, .ptr 1 0]], .blk 86 [.fn (.func 48) [] [.ptr 0 0]], .blk 86 [.fn (.func 49) [] [.ptr 1 0]], .blk 33 [.fn (.func 45) [] [.ptr 0 0, .ptr 1 0]], .blk 87 [.fn (.func 50) [] [.ptr 2 0, .ptr 3 0, .ptr 4 0]]], e := [] } }, r := 2 }), (26, { r := 9 }), (27, { T := [1], r := 9 }), (28, { tip := { orc := .val (.int .i64 1) }, r := 9 }), (29, { tip := { pc := some { ρ := [4, 2, 3, 5], n0 := 4, res := bo y86, σ' := [.blk 86 [.fn (.func 47) [] [.ptr 1 0, .ptr 2 0]], .blk 26 (T_api_Code.pvs y82.1), .blk 30 (T_api_Proc.pvs y82.2), .blk 86 [.fn (.func 48) [] [.ptr 1 0]]], e := [1, 3, 5, 7] } }, T := [4, 2, 3, 5], r := 9 })] (by kernel_rfl) (allc (congrArg D.bool b76) (allc (elemAt_of T_api_Def.enc_len hy77) (allc (congrArg D.bool b78) (allc (C_proc_bare p1 y79 hy79) (allc (C_proc_Same y79 p1 y80 hy80) (allc (congrArg D.bool b81) (allc (C_proc_looks p0 p1 y82 hy82) (allc (eq_of_beq b85) (allc (within_lit 7 (eq_of_beq b85) rfl) (allc (C_proc_looks_6 y82.1 y82.2 y86 hy86) all0)))))))))) (edq (l := []) (ks := [59]) (ρ := []) (st' := ⟨[(59, bo (!y86))], []⟩) (by kernel_rfl) (fun a w hs => ⟨(!y86), h, hs⟩))
              · replace h := cond_f b85 h
                rcases tf (p1.Mode == 2) with b87 | b87
                · replace h := cond_t b87 h
                  obtain ⟨y88, hy88, h⟩ := bind_some h
                  refine At.dg mixedOrd 7 [59] [] [(2, { tip := { orc := .val (.bool false) } }), (3, { r := 2 }), (4, { T := [1], r := 2 }), (5, { r := 2 }), (6, { r := 2 }), (7, { T := [0], r := 2 }), (8, { r := 2 }), (9, { T := [1], r := 2 }), (10, { tip := { orc := .cells (T_api_Def.enc y77) } }), (15, { tip := { orc := .val (.bool false) } }), (16, { T := [1], r := 2 }), (17, { tip := { pc := some { ρ := [], n0 := 0, res := .agg (T_api_Proc.pvs y79), σ' := [], e := [] } }, r := 2 }), (18, { T := [1], r := 2 }), (19, { tip := { pc := some { ρ := [], n0 := 0, res := bo y80, σ' := [], e := [] } }, r := 2 }), (22, { tip := { orc := .val (.bool false) } }), (23, { T := [0], r := 2 }), (24, { T := [1], r := 2 }), (25, { tip := { pc := some { ρ := [2, 3, 4, 5, 6, 7, 8], n0 := 0, res := .agg [.fn (.func 45) [] [.ptr 0 0, .ptr 1 0], .fn (.func 51) [] [.ptr 2 0, .ptr 1 0, .ptr 3 0], .fn (.func 52) [] [.ptr 2 0, .ptr 1 0, .ptr 3 0, .ptr 4 0], .fn (.func 53) [] [.ptr 5 0, .ptr 1 0, .ptr 6 0], .fn (.func 56) [] [.ptr 2 0, .ptr 1 0], .fn (.func 57) [] [.ptr 1 0], .fn (.func 45) [] [.ptr 0 0, .ptr 1 0]], σ' := [.blk 26 (T_api_Code.pvs y82.1), .blk 30 (T_api_Proc.pvs y82.2), .blk 86 [.fn (.func 47) [] [.ptr 0 0, .ptr 1 0]], .blk 86 [.fn (.func 48) [] [.ptr 0 0]], .blk 86 [.fn (.func 49) [] [.ptr 1 0]], .blk 33 [.fn (.func 45) [] [.ptr 0 0, .ptr 1 0]], .blk 87 [.fn (.func 50) [] [.ptr 2 0, .ptr 3 0, .ptr 4 0]]], e := [] } }, r := 2 }), (26, { r := 9 }), (27, { T := [1], r := 9 }), (28, { tip := { orc := .val (.int .i64 2) }, r := 9 }), (29, { tip := { pc := some { ρ := [4, 2, 3, 5, 6], n0 := 5, res := bo y88, σ' := [.blk 86 [.fn (.func 47) [] [.ptr 1 0, .ptr 2 0]], .blk 26 (T_api_Code.pvs y82.1), .blk 30 (T_api_Proc.pvs y82.2), .blk 86 [.fn (.func 48) [] [.ptr 1 0]], .blk 86 [.fn (.func 49) [] [.ptr 2 0]]], e := [1, 3, 5, 7, 9] } }, T := [4, 2, 3, 5, 6], r := 9 })] (by kernel_rfl) (allc (congrArg D.bool b76) (allc (elemAt_of T_api_Def.enc_len hy77) (allc (congrArg D.bool b78) (allc (C_proc_bare p1 y79 hy79) (allc (C_proc_Same y79 p1 y80 hy80) (allc (congrArg D.bool b81) (allc (C_proc_looks p0 p1 y82 hy82) (allc (eq_of_beq b87) (allc (within_lit 7 (eq_of_beq b87) rfl) (allc (C_proc_looks_7 y82.1 y82.2 y88 hy88) all0)))))))))) (edq (l := []) (ks := [59]) (ρ := []) (st' := ⟨[(59, bo (!y88))], []⟩) (by kernel_rfl) (fun a w hs => ⟨(!y88), h, hs⟩))
                · replace h := cond_f b87 h
                  rcases tf (p1.Mode == 3) with b89 | b89
                  · replace h := cond_t b89 h
                    obtain ⟨y90, hy90, h⟩ := bind_some h
                    refine At.dg mixedOrd 7 [59] [] [(2, { tip := { orc := .val (.bool false) } }), (3, { r := 2 }), (4, { T := [1], r := 2 }), (5, { r := 2 }), (6, { r := 2 }), (7, { T := [0], r := 2 }), (8, { r := 2 }), (9, { T := [1], r := 2 }), (10, { tip := { orc := .cells (T_api_Def.enc y77) } }), (15, { tip := { orc := .val (.bool false) } }), (16, { T := [1], r := 2 }), (17, { tip := { pc := some { ρ := [], n0 := 0, res := .agg (T_api_Proc.pvs y79), σ' := [], e := [] } }, r := 2 }), (18, { T := [1], r := 2 }), (19, { tip := { pc := some { ρ := [], n0 := 0, res := bo y80, σ' := [], e := [] } }, r := 2 }), (22, { tip := { orc := .val (.bool false) } }), (23, { T := [0], r := 2 }), (24, { T := [1], r := 2 }), (25, { tip := { pc := some { ρ := [2, 3, 4, 5, 6, 7, 8], n0 := 0, res := .agg [.fn (.func 45) [] [.ptr 0 0, .ptr 1 0], .fn (.func 51) [] [.ptr 2 0, .ptr 1 0, .ptr 3 0], .fn (.func 52) [] [.ptr 2 0, .ptr 1 0, .ptr 3 0, .ptr 4 0], .fn (.func 53) [] [.ptr 5 0, .ptr 1 0, .ptr 6 0], .fn (.func 56) [] [.ptr 2 0, .ptr 1 0], .fn (.func 57) [] [.ptr 1 0], .fn (.func 45) [] [.ptr 0 0, .ptr 1 0]], σ' := [.blk 26 (T_api_Code.pvs y82.1), .blk 30 (T_api_Proc.pvs y82.2), .blk 86 [.fn (.func 47) [] [.ptr 0 0, .ptr 1 0]], .blk 86 [.fn (.func 48) [] [.ptr 0 0]], .blk 86 [.fn (.func 49) [] [.ptr 1 0]], .blk 33 [.fn (.func 45) [] [.ptr 0 0, .ptr 1 0]], .blk 87 [.fn (.func 50) [] [.ptr 2 0, .ptr 3 0, .ptr 4 0]]], e := [] } }, r := 2 }), (26, { r := 9 }), (27, { T := [1], r := 9 }), (28, { tip := { orc := .val (.int .i64 3) }, r := 9 }), (29, { tip := { pc := some { ρ := [7, 2, 3, 8, 4, 5, 6], n0 := 7, res := bo y90, σ' := [.blk 33 [.fn (.func 45) [] [.ptr 1 0, .ptr 2 0]], .blk 26 (T_api_Code.pvs y82.1), .blk 30 (T_api_Proc.pvs y82.2), .blk 87 [.fn (.func 50) [] [.ptr 4 0, .ptr 5 0, .ptr 6 0]], .blk 86 [.fn (.func 47) [] [.ptr 1 0, .ptr 2 0]], .blk 86 [.fn (.func 48) [] [.ptr 1 0]], .blk 86 [.fn (.func 49) [] [.ptr 2 0]]], e := [1, 3, 5, 7, 9, 11, 13] } }, T := [7, 2, 3, 8, 4, 5, 6], r := 9 })] (by kernel_rfl) (allc (congrArg D.bool b76) (allc (elemAt_of T_api_Def.enc_len hy77) (allc (congrArg D.bool b78) (allc (C_proc_bare p1 y79 hy79) (allc (C_proc_Same y79 p1 y80 hy80) (allc (congrArg D.bool b81) (allc (C_proc_looks p0 p1 y82 hy82) (allc (eq_of_beq b89) (allc (within_lit 7 (eq_of_beq b89) rfl) (allc (C_proc_looks_8 y82.1 y82.2 y90 hy90) all0)))))))))) (edq (l := []) (ks := [59]) (ρ := []) (st' := ⟨[(59, bo (!y90))], []⟩) (by kernel_rfl) (fun a w hs => ⟨(!y90), h, hs⟩))
                  · replace h := cond_f b89 h
                    rcases tf (p1.Mode == 4) with b91 | b91
                    · replace h := cond_t b91 h
                      obtain ⟨y92, hy92, h⟩ := bind_some h
                      refine At.dg mixedOrd 7 [59] [] [(2, { tip := { orc := .val (.bool false) } }), (3, { r := 2 }), (4, { T := [1], r := 2 }), (5, { r := 2 }), (6, { r := 2 }), (7, { T := [0], r := 2 }), (8, { r := 2 }), (9, { T := [1], r := 2 }), (10, { tip := { orc := .cells (T_api_Def.enc y77) } }), (15, { tip := { orc := .val (.bool false) } }), (16, { T := [1], r := 2 }), (17, { tip := { pc := some { ρ := [], n0 := 0, res := .agg (T_api_Proc.pvs y79), σ' := [], e := [] } }, r := 2 }), (18, { T := [1], r := 2 }), (19, { tip := { pc := some { ρ := [], n0 := 0, res := bo y80, σ' := [], e := [] } }, r := 2 }), (22, { tip := { orc := .val (.bool false) } }), (23, { T := [0], r := 2 }), (24, { T := [1], r := 2 }), (25, { tip := { pc := some { ρ := [2, 3, 4, 5, 6, 7, 8], n0 := 0, res := .agg [.fn (.func 45) [] [.ptr 0 0, .ptr 1 0], .fn (.func 51) [] [.ptr 2 0, .ptr 1 0, .ptr 3 0], .fn (.func 52) [] [.ptr 2 0, .ptr 1 0, .ptr 3 0, .ptr 4 0], .fn (.func 53) [] [.ptr 5 0, .ptr 1 0, .ptr 6 0], .fn (.func 56) [] [.ptr 2 0, .ptr 1 0], .fn (.func 57) [] [.ptr 1 0], .fn (.func 45) [] [.ptr 0 0, .ptr 1 0]], σ' := [.blk 26 (T_api_Code.pvs y82.1), .blk 30 (T_api_Proc.pvs y82.2), .blk 86 [.fn (.func 47) [] [.ptr 0 0, .ptr 1 0]], .blk 86 [.fn (.func 48) [] [.ptr 0 0]], .blk 86 [.fn (.func 49) [] [.ptr 1 0]], .blk 33 [.fn (.func 45) [] [.ptr 0 0, .ptr 1 0]], .blk 87 [.fn (.func 50) [] [.ptr 2 0, .ptr 3 0, .ptr 4 0]]], e := [] } }, r := 2 }), (26, { r := 9 }), (27, { T := [1], r := 9 }), (28, { tip := { orc := .val (.int .i64 4) }, r := 9 }), (29, { tip := { pc := some { ρ := [4, 2, 3], n0 := 3, res := bo y92, σ' := [.blk 86 [.fn (.func 47) [] [.ptr 1 0, .ptr 2 0]], .blk 26 (T_api_Code.pvs y82.1), .blk 30 (T_api_Proc.pvs y82.2)], e := [1, 3, 5] } }, T := [4, 2, 3], r := 9 })] (by kernel_rfl) (allc (congrArg D.bool b76) (allc (elemAt_of T_api_Def.enc_len hy77) (allc (congrArg D.bool b78) (allc (C_proc_bare p1 y79 hy79) (allc (C_proc_Same y79 p1 y80 hy80) (allc (congrArg D.bool b81) (allc (C_proc_looks p0 p1 y82 hy82) (allc (eq_of_beq b91) (allc (within_lit 7 (eq_of_beq b91) rfl) (allc (C_proc_looks_9 y82.1 y82.2 y92 hy92) all0)))))))))) (edq (l := []) (ks := [59]) (ρ := []) (st' := ⟨[(59, bo (!y92))], []⟩) (by kernel_rfl) (fun a w hs => ⟨(!y92), h, hs⟩))
                    · replace h := cond_f b91 h
                      rcases tf (p1.Mode == 5) with b93 | b93
                      · replace h := cond_t b93 h
                        obtain ⟨y94, hy94, h⟩ := bind_some h
                        refine At.dg mixedOrd 7 [59] [] [(2, { tip := { orc := .val (.bool false) } }), (3, { r := 2 }), (4, { T := [1], r := 2 }), (5, { r := 2 }), (6, { r := 2 }), (7, { T := [0], r := 2 }), (8, { r := 2 }), (9, { T := [1], r := 2 }), (10, { tip := { orc := .cells (T_api_Def.enc y77) } }), (15, { tip := { orc := .val (.bool false) } }), (16, { T := [1], r := 2 }), (17, { tip := { pc := some { ρ := [], n0 := 0, res := .agg (T_api_Proc.pvs y79), σ' := [], e := [] } }, r := 2 }), (18, { T := [1], r := 2 }), (19, { tip := { pc := some { ρ := [], n0 := 0, res := bo y80, σ' := [], e := [] } }, r := 2 }), (22, { tip := { orc := .val (.bool false) } }), (23, { T := [0], r := 2 }), (24, { T := [1], r := 2 }), (25, { tip := { pc := some { ρ := [2, 3, 4, 5, 6, 7, 8], n0 := 0, res := .agg [.fn (.func 45) [] [.ptr 0 0, .ptr 1 0], .fn (.func 51) [] [.ptr 2 0, .ptr 1 0, .ptr 3 0], .fn (.func 52) [] [.ptr 2 0, .ptr 1 0, .ptr 3 0, .ptr 4 0], .fn (.func 53) [] [.ptr 5 0, .ptr 1 0, .ptr 6 0], .fn (.func 56) [] [.ptr 2 0, .ptr 1 0], .fn (.func 57) [] [.ptr 1 0], .fn (.func 45) [] [.ptr 0 0, .ptr 1 0]], σ' := [.blk 26 (T_api_Code.pvs y82.1), .blk 30 (T_api_Proc.pvs y82.2), .blk 86 [.fn (.func 47) [] [.ptr 0 0, .ptr 1 0]], .blk 86 [.fn (.func 48) [] [.ptr 0 0]], .blk 86 [.fn (.func 49) [] [.ptr 1 0]], .blk 33 [.fn (.func 45) [] [.ptr 0 0, .ptr 1 0]], .blk 87 [.fn (.func 50) [] [.ptr 2 0, .ptr 3 0, .ptr 4 0]]], e := [] } }, r := 2 }), (26, { r := 9 }), (27, { T := [1], r := 9 }), (28, { tip := { orc := .val (.int .i64 5) }, r := 9 }), (29, { tip := { pc := some { ρ := [3], n0 := 1, res := bo y94, σ' := [.blk 30 (T_api_Proc.pvs y82.2)], e := [1] } }, T := [3], r := 9 })] (by kernel_rfl) (allc (congrArg D.bool b76) (allc (elemAt_of T_api_Def.enc_len hy77) (allc (congrArg D.bool b78) (allc (C_proc_bare p1 y79 hy79) (allc (C_proc_Same y79 p1 y80 hy80) (allc (congrArg D.bool b81) (allc (C_proc_looks p0 p1 y82 hy82) (allc (eq_of_beq b93) (allc (within_lit 7 (eq_of_beq b93) rfl) (allc (C_proc_looks_10 y82.2 y94 hy94) all0)))))))))) (edq (l := []) (ks := [59]) (ρ := []) (st' := ⟨[(59, bo (!y94))], []⟩) (by kernel_rfl) (fun a w hs => ⟨(!y94), h, hs⟩))
                      · replace h := cond_f b93 h
                        rcases tf (p1.Mode == 6) with b95 | b95
                        · replace h := cond_t b95 h
                          obtain ⟨y96, hy96, h⟩ := bind_some h
                          refine At.dg mixedOrd 7 [59] [] [(2, { tip := { orc := .val (.bool false) } }), (3, { r := 2 }), (4, { T := [1], r := 2 }), (5, { r := 2 }), (6, { r := 2 }), (7, { T := [0], r := 2 }), (8, { r := 2 }), (9, { T := [1], r := 2 }), (10, { tip := { orc := .cells (T_api_Def.enc y77) } }), (15, { tip := { orc := .val (.bool false) } }), (16, { T := [1], r := 2 }), (17, { tip := { pc := some { ρ := [], n0 := 0, res := .agg (T_api_Proc.pvs y79), σ' := [], e := [] } }, r := 2 }), (18, { T := [1], r := 2 }), (19, { tip := { pc := some { ρ := [], n0 := 0, res := bo y80, σ' := [], e := [] } }, r := 2 }), (22, { tip := { orc := .val (.bool false) } }), (23, { T := [0], r := 2 }), (24, { T := [1], r := 2 }), (25, { tip := { pc := some { ρ := [2, 3, 4, 5, 6, 7, 8], n0 := 0, res := .agg [.fn (.func 45) [] [.ptr 0 0, .ptr 1 0], .fn (.func 51) [] [.ptr 2 0, .ptr 1 0, .ptr 3 0], .fn (.func 52) [] [.ptr 2 0, .ptr 1 0, .ptr 3 0, .ptr 4 0], .fn (.func 53) [] [.ptr 5 0, .ptr 1 0, .ptr 6 0], .fn (.func 56) [] [.ptr 2 0, .ptr 1 0], .fn (.func 57) [] [.ptr 1 0], .fn (.func 45) [] [.ptr 0 0, .ptr 1 0]], σ' := [.blk 26 (T_api_Code.pvs y82.1), .blk 30 (T_api_Proc.pvs y82.2), .blk 86 [.fn (.func 47) [] [.ptr 0 0, .ptr 1 0]], .blk 86 [.fn (.func 48) [] [.ptr 0 0]], .blk 86 [.fn (.func 49) [] [.ptr 1 0]], .blk 33 [.fn (.func 45) [] [.ptr 0 0, .ptr 1 0]], .blk 87 [.fn (.func 50) [] [.ptr 2 0, .ptr 3 0, .ptr 4 0]]], e := [] } }, r := 2 }), (26, { r := 9 }), (27, { T := [1], r := 9 }), (28, { tip := { orc := .val (.int .i64 6) }, r := 9 }), (29, { tip := { pc := some { ρ := [2, 3], n0 := 2, res := bo y96, σ' := [.blk 26 (T_api_Code.pvs y82.1), .blk 30 (T_api_Proc.pvs y82.2)], e := [1, 3] } }, T := [2, 3], r := 9 })] (by kernel_rfl) (allc (congrArg D.bool b76) (allc (elemAt_of T_api_Def.enc_len hy77) (allc (congrArg D.bool b78) (allc (C_proc_bare p1 y79 hy79) (allc (C_proc_Same y79 p1 y80 hy80) (allc (congrArg D.bool b81) (allc (C_proc_looks p0 p1 y82 hy82) (allc (eq_of_beq b95) (allc (within_lit 7 (eq_of_beq b95) rfl) (allc (C_proc_looks_1 y82.1 y82.2 y96 hy96) all0)))))))))) (edq (l := []) (ks := [59]) (ρ := []) (st' := ⟨[(59, bo (!y96))], []⟩) (by kernel_rfl) (fun a w hs => ⟨(!y96), h, hs⟩))
                        · replace h := cond_f b95 h
                          cases h
    · intro x74 h
      replace h : F_proc_Check_J2 x74 = some r := h
      rw [F_proc_Check_J2] at h
      refine At.cond x74 (by kernel_rfl) (fun b75 => ?_) (fun b75 => ?_)
      · replace h := cond_t b75 h
        refine At.seq ?_
        refine At.rg [4] [] [] (by kernel_rfl) all0 (norm ?_)
        obtain rfl := some_eq h
        exact At.ret fun a w hs => ret_ok hR (ρ := []) (gs := []) (by kernel_rfl) all0 (by kernel_rfl) rfl rfl a w hs _ (.inl rfl)
      · replace h := cond_f b75 h
        refine At.nr [] [] (by kernel_rfl) ?_
        refine At.skip (norm ?_)
        refine At.seq ?_
        refine At.rg [4] [] [] (by kernel_rfl) all0 (norm ?_)
        obtain rfl := some_eq h
        exact At.ret fun a w hs => ret_ok hR (ρ := []) (gs := []) (by kernel_rfl) all0 (by kernel_rfl) rfl rfl a w hs _ (.inl rfl)
set_option maxRecDepth 100000 in
theorem C_retracelaw22_live  (r : Bool) (h : F_retracelaw22_live  = some r) : FnOK Tryz.prog 9 [] [] (bo r) [] [] := by
  rw [F_retracelaw22_live] at h
  refine FnOK.intro Tryz.func9 rfl (by kernel_rfl) (by kernel_rfl) fun E gv R hR => ?_
  refine At.seq ?_
  refine At.rg [] [] [] (by kernel_rfl) all0 (norm ?_)
  refine At.seq ?_
  obtain ⟨y2, hy2, h⟩ := bind_some h
  refine At.rg [1] [0] [(0, { pc := some { ρ := [], n0 := 0, res := .agg (T_retraceref19_Got.pvs y2), σ' := [], e := [] } })] (by kernel_rfl) (allc (C_retraceref19_Text (⟨#[109, 97, 105, 110, 32, 123, 32, 125]⟩ : ByteArray) y2 hy2) all0) (norm ?_)
  refine At.seq ?_
  obtain ⟨y4, hy4, h⟩ := bind_some h
  refine At.rg [1, 2, 3] [0, 1] [(1, { pc := some { ρ := [], n0 := 0, res := .tup [.agg (T_api_Proc.pvs y4.1), i64 y4.2], σ' := [], e := [] } })] (by kernel_rfl) (allc (C_proc_New y2.C 0 ([] : List Int) 5 y4 hy4) all0) (norm ?_)
  refine At.seqJ (S := Bool) (fun s => ⟨[(0, bo s)], []⟩) (fun s => F_retracelaw22_live_J1 s = some r) ?_ ?_
  · rcases tf (y4.2 == 0) with b12 | b12
    · replace h := cond_t b12 h
      rcases tf (y4.1.Mode == 5) with b13 | b13
      · replace h := cond_t b13 h
        rcases tf (y4.1.Fuel == 5) with b14 | b14
        · replace h := cond_t b14 h
          obtain ⟨y15, hy15, h⟩ := bind_some h
          rcases tf (y15 == 0) with b16 | b16
          · replace h := cond_t b16 h
            obtain ⟨y17, hy17, h⟩ := bind_some h
            refine At.rg [0] [] [(2, { orc := .val (.bool true) }), (7, { orc := .val (.bool true) }), (12, { orc := .val (.bool true) }), (15, { pc := some { ρ := [], n0 := 0, res := i64 y15, σ' := [], e := [] } }), (18, { orc := .val (.bool true) }), (21, { pc := some { ρ := [], n0 := 0, res := bo y17, σ' := [], e := [] } })] (by kernel_rfl) (allc (congrArg D.bool b12) (allc (congrArg D.bool b13) (allc (congrArg D.bool b14) (allc (C_proc_Check y2.C y4.1 y15 hy15) (allc (congrArg D.bool b16) (allc (C_proc_Same y4.1 y4.1 y17 hy17) all0)))))) (edq (l := []) (ks := [0]) (ρ := []) (st' := ⟨[(0, bo y17)], []⟩) (by kernel_rfl) (fun a w hs => ⟨y17, h, hs⟩))
          · replace h := cond_f b16 h
            refine At.rg [0] [] [(2, { orc := .val (.bool true) }), (7, { orc := .val (.bool true) }), (12, { orc := .val (.bool true) }), (15, { pc := some { ρ := [], n0 := 0, res := i64 y15, σ' := [], e := [] } }), (18, { orc := .val (.bool false) })] (by kernel_rfl) (allc (congrArg D.bool b12) (allc (congrArg D.bool b13) (allc (congrArg D.bool b14) (allc (C_proc_Check y2.C y4.1 y15 hy15) (allc (congrArg D.bool b16) all0))))) (edq (l := []) (ks := [0]) (ρ := []) (st' := ⟨[(0, bo false)], []⟩) (by kernel_rfl) (fun a w hs => ⟨false, h, hs⟩))
        · replace h := cond_f b14 h
          refine At.rg [0] [] [(2, { orc := .val (.bool true) }), (7, { orc := .val (.bool true) }), (12, { orc := .val (.bool false) })] (by kernel_rfl) (allc (congrArg D.bool b12) (allc (congrArg D.bool b13) (allc (congrArg D.bool b14) all0))) (edq (l := []) (ks := [0]) (ρ := []) (st' := ⟨[(0, bo false)], []⟩) (by kernel_rfl) (fun a w hs => ⟨false, h, hs⟩))
      · replace h := cond_f b13 h
        refine At.rg [0] [] [(2, { orc := .val (.bool true) }), (7, { orc := .val (.bool false) })] (by kernel_rfl) (allc (congrArg D.bool b12) (allc (congrArg D.bool b13) all0)) (edq (l := []) (ks := [0]) (ρ := []) (st' := ⟨[(0, bo false)], []⟩) (by kernel_rfl) (fun a w hs => ⟨false, h, hs⟩))
    · replace h := cond_f b12 h
      refine At.rg [0] [] [(2, { orc := .val (.bool false) })] (by kernel_rfl) (allc (congrArg D.bool b12) all0) (edq (l := []) (ks := [0]) (ρ := []) (st' := ⟨[(0, bo false)], []⟩) (by kernel_rfl) (fun a w hs => ⟨false, h, hs⟩))
  · intro x11 h
    replace h : F_retracelaw22_live_J1 x11 = some r := h
    rw [F_retracelaw22_live_J1] at h
    obtain rfl := some_eq h
    exact At.ret fun a w hs => ret_ok hR (ρ := []) (gs := []) (by kernel_rfl) all0 (by kernel_rfl) rfl rfl a w hs _ (.inl rfl)
set_option maxRecDepth 100000 in
theorem C_retraceref22_from (p0 : Int) (p1 : Int) (r : Bool) (h : F_retraceref22_from p0 p1 = some r) : FnOK Tryz.prog 29 [i64 p0, i64 p1] [] (bo r) [] [] := by
  rw [F_retraceref22_from] at h
  refine FnOK.intro Tryz.func29 rfl (by kernel_rfl) (by kernel_rfl) fun E gv R hR => ?_
  refine At.seq ?_
  refine At.rg [0, 1] [] [] (by kernel_rfl) all0 (norm ?_)
  refine At.seqJ (S := Bool) (fun s => ⟨[(4, bo s)], []⟩) (fun s => F_retraceref22_from_J1 s = some r) ?_ ?_
  · rcases tf (decide (0 ≤ p0)) with b3 | b3
    · replace h := cond_t b3 h
      refine At.rg [4] [] [(2, { orc := .val (.bool true) })] (by kernel_rfl) (allc (congrArg D.bool b3) all0) (edq (l := []) (ks := [4]) (ρ := []) (st' := ⟨[(4, bo (decide (p0 < p1)))], []⟩) (by kernel_rfl) (fun a w hs => ⟨(decide (p0 < p1)), h, hs⟩))
    · replace h := cond_f b3 h
      refine At.rg [4] [] [(2, { orc := .val (.bool false) })] (by kernel_rfl) (allc (congrArg D.bool b3) all0) (edq (l := []) (ks := [4]) (ρ := []) (st' := ⟨[(4, bo false)], []⟩) (by kernel_rfl) (fun a w hs => ⟨false, h, hs⟩))
  · intro x2 h
    replace h : F_retraceref22_from_J1 x2 = some r := h
    rw [F_retraceref22_from_J1] at h
    obtain rfl := some_eq h
    exact At.ret fun a w hs => ret_ok hR (ρ := []) (gs := []) (by kernel_rfl) all0 (by kernel_rfl) rfl rfl a w hs _ (.inl rfl)
set_option maxRecDepth 100000 in
theorem C_retraceref20_Routine (p0 : T_api_Code) (p1 : Int) (r : Int) (h : F_retraceref20_Routine p0 p1 = some r) : FnOK Tryz.prog 58 [.agg (T_api_Code.pvs p0), i64 p1] [] (i64 r) [] [] := by
  rw [F_retraceref20_Routine] at h
  refine FnOK.intro Tryz.func58 rfl (by kernel_rfl) (by kernel_rfl) fun E gv R hR => ?_
  refine At.seq ?_
  refine At.rg [1, 2] [0] [] (by kernel_rfl) all0 (norm ?_)
  refine At.seq ?_
  refine At.rg [1, 2, 5] [0] [] (by kernel_rfl) all0 (norm ?_)
  refine At.seq ?_
  refine At.seq ?_
  refine At.rg [1, 2, 5, 6] [0] [] (by kernel_rfl) all0 (norm ?_)
  refine At.block ?_
  refine At.nar [1, 2, 5, 6] [0] (st' := ⟨[(1, i64 p1), (2, .ptr 0 0), (5, i64 (-1)), (6, i64 0)], [.blk 26 (T_api_Code.pvs p0)]⟩) (by kernel_rfl) ?_
  refine At.loop (fun s : (Int × Int) => F_retraceref20_Routine_L3 p0 p1 s.1 s.2) (fun s : (Int × Int) => ⟨[(1, i64 p1), (2, .ptr 0 0), (5, i64 s.1), (6, i64 s.2)], [.blk 26 (T_api_Code.pvs p0)]⟩) r ((-1), 0) h ?_
  rintro ⟨x26, x27⟩ oo28 h f29
  replace h : F_retraceref20_Routine_L3 p0 p1 x26 x27 = some oo28 := h
  rw [F_retraceref20_Routine_L3] at h
  refine At.seq ?_
  refine At.seqJ (S := Bool) (fun s => ⟨[(1, i64 p1), (2, .ptr 0 0), (5, i64 x26), (6, i64 x27), (22, bo s)], [.blk 26 (T_api_Code.pvs p0)]⟩) (fun s => F_retraceref20_Routine_J1 p0 p1 x26 x27 s = some oo28) ?_ ?_
  · rcases tf (decide (x27 < ((p0.Defs).length : Int))) with b49 | b49
    · replace h := cond_t b49 h
      rcases tf (decide (0 ≤ p1)) with b50 | b50
      · replace h := cond_t b50 h
        refine At.rg [1, 2, 5, 6, 22] [0] [(5, { orc := .val (.bool true) }), (9, { orc := .val (.bool true) })] (by kernel_rfl) (allc (congrArg D.bool b49) (allc (congrArg D.bool b50) all0)) (edq (l := []) (ks := [1, 2, 5, 6, 22]) (ρ := [0]) (st' := ⟨[(1, i64 p1), (2, .ptr 0 0), (5, i64 x26), (6, i64 x27), (22, bo (decide (p1 < ((p0.Ins).length : Int))))], [.blk 26 (T_api_Code.pvs p0)]⟩) (by kernel_rfl) (fun a w hs => ⟨(decide (p1 < ((p0.Ins).length : Int))), h, hs⟩))
      · replace h := cond_f b50 h
        refine At.rg [1, 2, 5, 6, 22] [0] [(5, { orc := .val (.bool true) }), (9, { orc := .val (.bool false) })] (by kernel_rfl) (allc (congrArg D.bool b49) (allc (congrArg D.bool b50) all0)) (edq (l := []) (ks := [1, 2, 5, 6, 22]) (ρ := [0]) (st' := ⟨[(1, i64 p1), (2, .ptr 0 0), (5, i64 x26), (6, i64 x27), (22, bo false)], [.blk 26 (T_api_Code.pvs p0)]⟩) (by kernel_rfl) (fun a w hs => ⟨false, h, hs⟩))
    · replace h := cond_f b49 h
      refine At.rg [1, 2, 5, 6, 22] [0] [(5, { orc := .val (.bool false) })] (by kernel_rfl) (allc (congrArg D.bool b49) all0) (edq (l := []) (ks := [1, 2, 5, 6, 22]) (ρ := [0]) (st' := ⟨[(1, i64 p1), (2, .ptr 0 0), (5, i64 x26), (6, i64 x27), (22, bo false)], [.blk 26 (T_api_Code.pvs p0)]⟩) (by kernel_rfl) (fun a w hs => ⟨false, h, hs⟩))
  · intro x38 h
    replace h : F_retraceref20_Routine_J1 p0 p1 x26 x27 x38 = some oo28 := h
    rw [F_retraceref20_Routine_J1] at h
    refine At.cond x38 (by kernel_rfl) (fun b39 => ?_) (fun b39 => ?_)
    · replace h := cond_t b39 h
      refine At.nr [1, 2, 5, 6] [0] (by kernel_rfl) ?_
      refine At.skip (norm ?_)
      refine At.seqJ (S := Int) (fun s => ⟨[(1, i64 p1), (2, .ptr 0 0), (5, i64 s), (6, i64 x27)], [.blk 26 (T_api_Code.pvs p0)]⟩) (fun s => F_retraceref20_Routine_J2 x27 s = some oo28) ?_ ?_
      · refine At.block ?_
        refine At.seq ?_
        obtain ⟨y45, hy45, h⟩ := bind_some h
        refine At.rg [1, 2, 5, 6, 32] [0] [(3, { orc := .cells (T_api_Def.enc y45) })] (by kernel_rfl) (allc (elemAt_of T_api_Def.enc_len hy45) all0) (norm ?_)
        refine At.cond (decide (y45.Entry ≤ p1)) (by kernel_rfl) (fun b46 => ?_) (fun b46 => ?_)
        · replace h := cond_t b46 h
          refine At.rg [1, 2, 5, 6] [0] [] (by kernel_rfl) all0 (edq (l := []) (ks := [1, 2, 5, 6]) (ρ := [0]) (st' := ⟨[(1, i64 p1), (2, .ptr 0 0), (5, i64 x27), (6, i64 x27)], [.blk 26 (T_api_Code.pvs p0)]⟩) (by kernel_rfl) (fun a w hs => ⟨x27, h, hs⟩))
        · replace h := cond_f b46 h
          refine At.nr [1, 2, 5, 6] [0] (by kernel_rfl) ?_
          refine At.skip (edq (l := []) (ks := [1, 2, 5, 6]) (ρ := [0]) (st' := ⟨[(1, i64 p1), (2, .ptr 0 0), (5, i64 x26), (6, i64 x27)], [.blk 26 (T_api_Code.pvs p0)]⟩) (by kernel_rfl) (fun a w hs => ⟨x26, h, hs⟩))
      · intro x43 h
        replace h : F_retraceref20_Routine_J2 x27 x43 = some oo28 := h
        rw [F_retraceref20_Routine_J2] at h
        refine At.rg [1, 2, 5, 6] [0] [] (by kernel_rfl) all0 (edq (l := []) (ks := [1, 2, 5, 6]) (ρ := [0]) (st' := ⟨[(1, i64 p1), (2, .ptr 0 0), (5, i64 x43), (6, i64 (w64 (x27 + 1)))], [.blk 26 (T_api_Code.pvs p0)]⟩) (by kernel_rfl) (fun a w hs => ⟨_, (some_eq h).symm, hs⟩))
    · replace h := cond_f b39 h
      refine At.nr [5] [] (by kernel_rfl) ?_
      obtain ⟨r47, h, e48⟩ := map_inr h
      rw [f29 _ e48] at h
      refine At.exit (norm ?_)
      refine At.seq ?_
      refine At.rg [4] [] [] (by kernel_rfl) all0 (norm ?_)
      obtain rfl := some_eq h
      exact At.ret fun a w hs => ret_ok hR (ρ := []) (gs := []) (by kernel_rfl) all0 (by kernel_rfl) rfl rfl a w hs _ (.inl rfl)
set_option maxRecDepth 100000 in
theorem C_retraceref22_is (p0 : T_api_Code) (p1 : Int) (p2 : Int) (p3 : Int) (r : Bool) (h : F_retraceref22_is p0 p1 p2 p3 = some r) : FnOK Tryz.prog 30 [.agg (T_api_Code.pvs p0), i64 p1, i64 p2, i64 p3] [] (bo r) [] [] := by
  rw [F_retraceref22_is] at h
  refine FnOK.intro Tryz.func30 rfl (by kernel_rfl) (by kernel_rfl) fun E gv R hR => ?_
  refine At.seq ?_
  refine At.rg [1, 2, 3, 4] [0] [] (by kernel_rfl) all0 (norm ?_)
  refine At.seqJ (S := Bool) (fun s => ⟨[(8, bo s)], []⟩) (fun s => F_retraceref22_is_J1 s = some r) ?_ ?_
  · obtain ⟨y6, hy6, h⟩ := bind_some h
    rcases tf (y6 == p1) with b7 | b7
    · replace h := cond_t b7 h
      rcases tf (decide (0 ≤ p1)) with b8 | b8
      · replace h := cond_t b8 h
        obtain ⟨y9, hy9, h⟩ := bind_some h
        refine At.rg [8] [] [(2, { pc := some { ρ := [], n0 := 0, res := i64 y6, σ' := [], e := [] } }), (5, { orc := .val (.bool true) }), (9, { orc := .val (.bool true) }), (13, { orc := .cells (T_api_Ins.enc y9) })] (by kernel_rfl) (allc (C_retraceref20_Routine p0 p2 y6 hy6) (allc (congrArg D.bool b7) (allc (congrArg D.bool b8) (allc (elemAt_of T_api_Ins.enc_len hy9) all0)))) (edq (l := []) (ks := [8]) (ρ := []) (st' := ⟨[(8, bo (y9.Op == p3))], []⟩) (by kernel_rfl) (fun a w hs => ⟨(y9.Op == p3), h, hs⟩))
      · replace h := cond_f b8 h
        refine At.rg [8] [] [(2, { pc := some { ρ := [], n0 := 0, res := i64 y6, σ' := [], e := [] } }), (5, { orc := .val (.bool true) }), (9, { orc := .val (.bool false) })] (by kernel_rfl) (allc (C_retraceref20_Routine p0 p2 y6 hy6) (allc (congrArg D.bool b7) (allc (congrArg D.bool b8) all0))) (edq (l := []) (ks := [8]) (ρ := []) (st' := ⟨[(8, bo false)], []⟩) (by kernel_rfl) (fun a w hs => ⟨false, h, hs⟩))
    · replace h := cond_f b7 h
      refine At.rg [8] [] [(2, { pc := some { ρ := [], n0 := 0, res := i64 y6, σ' := [], e := [] } }), (5, { orc := .val (.bool false) })] (by kernel_rfl) (allc (C_retraceref20_Routine p0 p2 y6 hy6) (allc (congrArg D.bool b7) all0)) (edq (l := []) (ks := [8]) (ρ := []) (st' := ⟨[(8, bo false)], []⟩) (by kernel_rfl) (fun a w hs => ⟨false, h, hs⟩))
  · intro x5 h
    replace h : F_retraceref22_is_J1 x5 = some r := h
    rw [F_retraceref22_is_J1] at h
    obtain rfl := some_eq h
    exact At.ret fun a w hs => ret_ok hR (ρ := []) (gs := []) (by kernel_rfl) all0 (by kernel_rfl) rfl rfl a w hs _ (.inl rfl)
set_option maxRecDepth 100000 in
theorem C_retraceref22_Rests (p0 : T_api_Code) (p1 : Int) (p2 : Int) (r : Bool) (h : F_retraceref22_Rests p0 p1 p2 = some r) : FnOK Tryz.prog 22 [.agg (T_api_Code.pvs p0), i64 p1, i64 p2] [] (bo r) [] [] := by
  rw [F_retraceref22_Rests] at h
  refine FnOK.intro Tryz.func22 rfl (by kernel_rfl) (by kernel_rfl) fun E gv R hR => ?_
  refine At.seq ?_
  refine At.rg [1, 2, 3] [0] [] (by kernel_rfl) all0 (norm ?_)
  refine At.seqJ (S := Bool) (fun s => ⟨[(6, bo s)], []⟩) (fun s => F_retraceref22_Rests_J1 s = some r) ?_ ?_
  · obtain ⟨y5, hy5, h⟩ := bind_some h
    rcases tf y5 with b6 | b6
    · replace h := cond_t b6 h
      refine At.rg [6] [] [(3, { pc := some { ρ := [], n0 := 0, res := bo y5, σ' := [], e := [] } }), (4, { orc := .val (.bool true) })] (by kernel_rfl) (allc (C_retraceref22_is p0 p1 p2 1 y5 hy5) (allc (congrArg D.bool b6) all0)) (edq (l := []) (ks := [6]) (ρ := []) (st' := ⟨[(6, bo true)], []⟩) (by kernel_rfl) (fun a w hs => ⟨true, h, hs⟩))
    · replace h := cond_f b6 h
      obtain ⟨y7, hy7, h⟩ := bind_some h
      refine At.rg [6] [] [(3, { pc := some { ρ := [], n0 := 0, res := bo y5, σ' := [], e := [] } }), (4, { orc := .val (.bool false) }), (8, { pc := some { ρ := [], n0 := 0, res := bo y7, σ' := [], e := [] } })] (by kernel_rfl) (allc (C_retraceref22_is p0 p1 p2 1 y5 hy5) (allc (congrArg D.bool b6) (allc (C_retraceref22_is p0 p1 p2 24 y7 hy7) all0))) (edq (l := []) (ks := [6]) (ρ := []) (st' := ⟨[(6, bo y7)], []⟩) (by kernel_rfl) (fun a w hs => ⟨y7, h, hs⟩))
  · intro x4 h
    replace h : F_retraceref22_Rests_J1 x4 = some r := h
    rw [F_retraceref22_Rests_J1] at h
    obtain rfl := some_eq h
    exact At.ret fun a w hs => ret_ok hR (ρ := []) (gs := []) (by kernel_rfl) all0 (by kernel_rfl) rfl rfl a w hs _ (.inl rfl)
set_option maxRecDepth 100000 in
theorem C_retraceref22_Chans (p0 : T_api_Code) (r : Int) (h : F_retraceref22_Chans p0 = some r) : FnOK Tryz.prog 13 [.agg (T_api_Code.pvs p0)] [] (i64 r) [] [] := by
  rw [F_retraceref22_Chans] at h
  refine FnOK.intro Tryz.func13 rfl (by kernel_rfl) (by kernel_rfl) fun E gv R hR => ?_
  refine At.seq ?_
  refine At.rg [1] [0] [] (by kernel_rfl) all0 (norm ?_)
  refine At.seq ?_
  refine At.rg [1, 3] [0] [] (by kernel_rfl) all0 (norm ?_)
  refine At.seq ?_
  refine At.seq ?_
  refine At.rg [1, 3, 4] [0] [] (by kernel_rfl) all0 (norm ?_)
  refine At.block ?_
  refine At.nar [1, 3, 4] [0] (st' := ⟨[(1, .ptr 0 0), (3, i64 0), (4, i64 0)], [.blk 26 (T_api_Code.pvs p0)]⟩) (by kernel_rfl) ?_
  refine At.loop (fun s : (Int × Int) => F_retraceref22_Chans_L2 p0 s.1 s.2) (fun s : (Int × Int) => ⟨[(1, .ptr 0 0), (3, i64 s.1), (4, i64 s.2)], [.blk 26 (T_api_Code.pvs p0)]⟩) r (0, 0) h ?_
  rintro ⟨x18, x19⟩ oo20 h f21
  replace h : F_retraceref22_Chans_L2 p0 x18 x19 = some oo20 := h
  rw [F_retraceref22_Chans_L2] at h
  refine At.seq ?_
  refine At.seq ?_
  refine At.rg [1, 3, 4, 9] [0] [] (by kernel_rfl) all0 (norm ?_)
  refine At.cond (decide (x19 < ((p0.Chans).length : Int))) (by kernel_rfl) (fun b23 => ?_) (fun b23 => ?_)
  · replace h := cond_t b23 h
    refine At.nr [1, 3, 4] [0] (by kernel_rfl) ?_
    refine At.skip (norm ?_)
    refine At.seqJ (S := Int) (fun s => ⟨[(1, .ptr 0 0), (3, i64 s), (4, i64 x19)], [.blk 26 (T_api_Code.pvs p0)]⟩) (fun s => F_retraceref22_Chans_J1 x19 s = some oo20) ?_ ?_
    · refine At.block ?_
      refine At.seq ?_
      obtain ⟨y30, hy30, h⟩ := bind_some h
      refine At.rg [1, 3, 4, 18] [0] [(3, { orc := .cells (T_api_Chan.enc y30) })] (by kernel_rfl) (allc (elemAt_of T_api_Chan.enc_len hy30) all0) (norm ?_)
      refine At.cond (decide (0 < y30.Size)) (by kernel_rfl) (fun b31 => ?_) (fun b31 => ?_)
      · replace h := cond_t b31 h
        obtain ⟨y32, hy32, h⟩ := bind_some h
        refine At.rg [1, 3, 4] [0] [(4, { orc := .cells (T_api_Chan.enc y32) })] (by kernel_rfl) (allc (elemAt_of T_api_Chan.enc_len hy32) all0) (edq (l := []) (ks := [1, 3, 4]) (ρ := [0]) (st' := ⟨[(1, .ptr 0 0), (3, i64 (w64 (x18 + y32.Size))), (4, i64 x19)], [.blk 26 (T_api_Code.pvs p0)]⟩) (by kernel_rfl) (fun a w hs => ⟨(w64 (x18 + y32.Size)), h, hs⟩))
      · replace h := cond_f b31 h
        refine At.rg [1, 3, 4] [0] [] (by kernel_rfl) all0 (edq (l := []) (ks := [1, 3, 4]) (ρ := [0]) (st' := ⟨[(1, .ptr 0 0), (3, i64 (w64 (x18 + 1))), (4, i64 x19)], [.blk 26 (T_api_Code.pvs p0)]⟩) (by kernel_rfl) (fun a w hs => ⟨(w64 (x18 + 1)), h, hs⟩))
    · intro x28 h
      replace h : F_retraceref22_Chans_J1 x19 x28 = some oo20 := h
      rw [F_retraceref22_Chans_J1] at h
      refine At.rg [1, 3, 4] [0] [] (by kernel_rfl) all0 (edq (l := []) (ks := [1, 3, 4]) (ρ := [0]) (st' := ⟨[(1, .ptr 0 0), (3, i64 x28), (4, i64 (w64 (x19 + 1)))], [.blk 26 (T_api_Code.pvs p0)]⟩) (by kernel_rfl) (fun a w hs => ⟨_, (some_eq h).symm, hs⟩))
  · replace h := cond_f b23 h
    refine At.nr [3] [] (by kernel_rfl) ?_
    obtain ⟨r33, h, e34⟩ := map_inr h
    rw [f21 _ e34] at h
    refine At.exit (norm ?_)
    refine At.seq ?_
    refine At.rg [2] [] [] (by kernel_rfl) all0 (norm ?_)
    obtain rfl := some_eq h
    exact At.ret fun a w hs => ret_ok hR (ρ := []) (gs := []) (by kernel_rfl) all0 (by kernel_rfl) rfl rfl a w hs _ (.inl rfl)
set_option maxRecDepth 100000 in
theorem C_retraceref22_alt (p0 : T_api_Code) (p1 : T_api_Proc) (p2 : T_api_Alt) (r : Bool) (h : F_retraceref22_alt p0 p1 p2 = some r) : FnOK Tryz.prog 31 [.agg (T_api_Code.pvs p0), .agg (T_api_Proc.pvs p1), .agg (T_api_Alt.pvs p2)] [] (bo r) [] [] := by
  rw [F_retraceref22_alt] at h
  refine FnOK.intro Tryz.func31 rfl (by kernel_rfl) (by kernel_rfl) fun E gv R hR => ?_
  refine At.seq ?_
  refine At.rg [3, 4, 5] [0, 1, 2] [] (by kernel_rfl) all0 (norm ?_)
  refine At.seq ?_
  refine At.seq ?_
  obtain ⟨y5, hy5, h⟩ := bind_some h
  refine At.rg [3, 4, 5, 13] [0, 1, 2] [(5, { pc := some { ρ := [], n0 := 0, res := bo y5, σ' := [], e := [] } })] (by kernel_rfl) (allc (C_retraceref22_Rests p0 p1.Def p2.Goto y5 hy5) all0) (norm ?_)
  refine At.cond (!y5) (by kernel_rfl) (fun b6 => ?_) (fun b6 => ?_)
  · replace h := cond_t b6 h
    refine At.seq ?_
    refine At.rg [6] [] [] (by kernel_rfl) all0 (norm ?_)
    obtain rfl := some_eq h
    exact At.ret fun a w hs => ret_ok hR (ρ := []) (gs := []) (by kernel_rfl) all0 (by kernel_rfl) rfl rfl a w hs _ (.inl rfl)
  · replace h := cond_f b6 h
    refine At.nr [3, 4, 5] [0, 1, 2] (by kernel_rfl) ?_
    refine At.skip (norm ?_)
    refine At.seq ?_
    refine At.seq ?_
    refine At.rg [3, 4, 5, 15] [0, 1, 2] [] (by kernel_rfl) all0 (norm ?_)
    refine At.block ?_
    refine At.seq ?_
    refine At.rg [3, 4, 5, 15, 16] [0, 1, 2] [] (by kernel_rfl) all0 (norm ?_)
    refine At.cond (p2.Kind == 1) (by kernel_rfl) (fun b35 => ?_) (fun b35 => ?_)
    · replace h := cond_t b35 h
      refine At.seqJ (S := Bool) (fun s => ⟨[(6, bo s)], []⟩) (fun s => F_retraceref22_alt_J1 s = some r) ?_ ?_
      · obtain ⟨y42, hy42, h⟩ := bind_some h
        obtain ⟨y43, hy43, h⟩ := bind_some h
        rcases tf y43 with b44 | b44
        · replace h := cond_t b44 h
          obtain ⟨y45, hy45, h⟩ := bind_some h
          rcases tf y45 with b46 | b46
          · replace h := cond_t b46 h
            refine At.draw_end mixedOrd 0 [6] [] _ (st' := ⟨[(6, bo (p2.Val == 0))], []⟩) (tips := [(0, { r := 3 }), (1, { T := [2], r := 3 }), (2, { T := [0], r := 3 }), (3, { tip := { pc := some { ρ := [], n0 := 0, res := i64 y42, σ' := [], e := [] } }, r := 3 }), (4, { tip := { pc := some { ρ := [], n0 := 0, res := bo y43, σ' := [], e := [] } }, r := 3 }), (5, { tip := { orc := .val (.bool true) } }), (6, { r := 3 }), (7, { T := [2], r := 3 }), (8, { r := 3 }), (9, { T := [1], r := 3 }), (10, { r := 3 }), (11, { tip := { pc := some { ρ := [], n0 := 0, res := bo y45, σ' := [], e := [] } }, r := 3 }), (13, { tip := { orc := .val (.bool true) } }), (14, { r := 3 }), (15, { T := [2], r := 3 })]) (by kernel_rfl) (allc (C_retraceref22_Chans p0 y42 hy42) (allc (C_retraceref22_from p2.Chan y42 y43 hy43) (allc (congrArg D.bool b44) (allc (C_retraceref22_from p2.Slot ((p1.Vars).length : Int) y45 hy45) (allc (congrArg D.bool b46) all0))))) (fun a w hs => ⟨(p2.Val == 0), h, hs⟩)
          · replace h := cond_f b46 h
            refine At.draw_end mixedOrd 0 [6] [] _ (st' := ⟨[(6, bo false)], []⟩) (tips := [(0, { r := 3 }), (1, { T := [2], r := 3 }), (2, { T := [0], r := 3 }), (3, { tip := { pc := some { ρ := [], n0 := 0, res := i64 y42, σ' := [], e := [] } }, r := 3 }), (4, { tip := { pc := some { ρ := [], n0 := 0, res := bo y43, σ' := [], e := [] } }, r := 3 }), (5, { tip := { orc := .val (.bool true) } }), (6, { r := 3 }), (7, { T := [2], r := 3 }), (8, { r := 3 }), (9, { T := [1], r := 3 }), (10, { r := 3 }), (11, { tip := { pc := some { ρ := [], n0 := 0, res := bo y45, σ' := [], e := [] } }, r := 3 }), (13, { tip := { orc := .val (.bool false) } }), (14, { r := 3 })]) (by kernel_rfl) (allc (C_retraceref22_Chans p0 y42 hy42) (allc (C_retraceref22_from p2.Chan y42 y43 hy43) (allc (congrArg D.bool b44) (allc (C_retraceref22_from p2.Slot ((p1.Vars).length : Int) y45 hy45) (allc (congrArg D.bool b46) all0))))) (fun a w hs => ⟨false, h, hs⟩)
        · replace h := cond_f b44 h
          refine At.draw_end mixedOrd 0 [6] [] _ (st' := ⟨[(6, bo false)], []⟩) (tips := [(0, { r := 3 }), (1, { T := [2], r := 3 }), (2, { T := [0], r := 3 }), (3, { tip := { pc := some { ρ := [], n0 := 0, res := i64 y42, σ' := [], e := [] } }, r := 3 }), (4, { tip := { pc := some { ρ := [], n0 := 0, res := bo y43, σ' := [], e := [] } }, r := 3 }), (5, { tip := { orc := .val (.bool false) } }), (6, { r := 3 }), (8, { r := 3 }), (10, { r := 3 }), (11, { r := 3 }), (14, { r := 3 })]) (by kernel_rfl) (allc (C_retraceref22_Chans p0 y42 hy42) (allc (C_retraceref22_from p2.Chan y42 y43 hy43) (allc (congrArg D.bool b44) all0))) (fun a w hs => ⟨false, h, hs⟩)
      · intro x41 h
        replace h : F_retraceref22_alt_J1 x41 = some r := h
        rw [F_retraceref22_alt_J1] at h
        obtain rfl := some_eq h
        exact At.ret fun a w hs => ret_ok hR (ρ := []) (gs := []) (by kernel_rfl) all0 (by kernel_rfl) rfl rfl a w hs _ (.inl rfl)
    · replace h := cond_f b35 h
      refine At.seq ?_
      refine At.region_end [3, 5, 15, 36] [0, 2] _ (st' := ⟨[(3, .ptr 0 0), (5, .ptr 1 0), (15, i64 p2.Kind), (36, bo (p2.Kind == 2))], [.blk 26 (T_api_Code.pvs p0), .blk 63 (T_api_Alt.pvs p2)]⟩) (tips := []) (by kernel_rfl) all0 (norm ?_)
      refine At.cond (p2.Kind == 2) (by kernel_rfl) (fun b47 => ?_) (fun b47 => ?_)
      · replace h := cond_t b47 h
        refine At.seqJ (S := Bool) (fun s => ⟨[(6, bo s)], []⟩) (fun s => F_retraceref22_alt_J2 s = some r) ?_ ?_
        · obtain ⟨y52, hy52, h⟩ := bind_some h
          obtain ⟨y53, hy53, h⟩ := bind_some h
          rcases tf y53 with b54 | b54
          · replace h := cond_t b54 h
            refine At.dg mixedOrd 0 [6] [] [(0, { r := 2 }), (1, { T := [1], r := 2 }), (2, { T := [0], r := 2 }), (3, { tip := { pc := some { ρ := [], n0 := 0, res := i64 y52, σ' := [], e := [] } }, r := 2 }), (4, { tip := { pc := some { ρ := [], n0 := 0, res := bo y53, σ' := [], e := [] } }, r := 2 }), (5, { tip := { orc := .val (.bool true) } }), (6, { r := 2 }), (7, { T := [1], r := 2 })] (by kernel_rfl) (allc (C_retraceref22_Chans p0 y52 hy52) (allc (C_retraceref22_from p2.Chan y52 y53 hy53) (allc (congrArg D.bool b54) all0))) (edq (l := []) (ks := [6]) (ρ := []) (st' := ⟨[(6, bo (p2.Slot == 0))], []⟩) (by kernel_rfl) (fun a w hs => ⟨(p2.Slot == 0), h, hs⟩))
          · replace h := cond_f b54 h
            refine At.dg mixedOrd 0 [6] [] [(0, { r := 2 }), (1, { T := [1], r := 2 }), (2, { T := [0], r := 2 }), (3, { tip := { pc := some { ρ := [], n0 := 0, res := i64 y52, σ' := [], e := [] } }, r := 2 }), (4, { tip := { pc := some { ρ := [], n0 := 0, res := bo y53, σ' := [], e := [] } }, r := 2 }), (5, { tip := { orc := .val (.bool false) } }), (6, { r := 2 })] (by kernel_rfl) (allc (C_retraceref22_Chans p0 y52 hy52) (allc (C_retraceref22_from p2.Chan y52 y53 hy53) (allc (congrArg D.bool b54) all0))) (edq (l := []) (ks := [6]) (ρ := []) (st' := ⟨[(6, bo false)], []⟩) (by kernel_rfl) (fun a w hs => ⟨false, h, hs⟩))
        · intro x51 h
          replace h : F_retraceref22_alt_J2 x51 = some r := h
          rw [F_retraceref22_alt_J2] at h
          obtain rfl := some_eq h
          exact At.ret fun a w hs => ret_ok hR (ρ := []) (gs := []) (by kernel_rfl) all0 (by kernel_rfl) rfl rfl a w hs _ (.inl rfl)
      · replace h := cond_f b47 h
        refine At.seq ?_
        refine At.rg [5, 48] [1] [] (by kernel_rfl) all0 (norm ?_)
        refine At.cond (p2.Kind == 3) (by kernel_rfl) (fun b55 => ?_) (fun b55 => ?_)
        · replace h := cond_t b55 h
          refine At.seqJ (S := Bool) (fun s => ⟨[(6, bo s)], []⟩) (fun s => F_retraceref22_alt_J3 s = some r) ?_ ?_
          · obtain ⟨y60, hy60, h⟩ := bind_some h
            rcases tf y60 with b61 | b61
            · replace h := cond_t b61 h
              rcases tf (p2.Chan == 0) with b62 | b62
              · replace h := cond_t b62 h
                refine At.rg [6] [] [(2, { pc := some { ρ := [], n0 := 0, res := bo y60, σ' := [], e := [] } }), (3, { orc := .val (.bool true) }), (8, { orc := .val (.bool true) })] (by kernel_rfl) (allc (C_retraceref22_from p2.Val 1099511627777 y60 hy60) (allc (congrArg D.bool b61) (allc (congrArg D.bool b62) all0))) (edq (l := []) (ks := [6]) (ρ := []) (st' := ⟨[(6, bo (p2.Slot == 0))], []⟩) (by kernel_rfl) (fun a w hs => ⟨(p2.Slot == 0), h, hs⟩))
              · replace h := cond_f b62 h
                refine At.rg [6] [] [(2, { pc := some { ρ := [], n0 := 0, res := bo y60, σ' := [], e := [] } }), (3, { orc := .val (.bool true) }), (8, { orc := .val (.bool false) })] (by kernel_rfl) (allc (C_retraceref22_from p2.Val 1099511627777 y60 hy60) (allc (congrArg D.bool b61) (allc (congrArg D.bool b62) all0))) (edq (l := []) (ks := [6]) (ρ := []) (st' := ⟨[(6, bo false)], []⟩) (by kernel_rfl) (fun a w hs => ⟨false, h, hs⟩))
            · replace h := cond_f b61 h
              refine At.rg [6] [] [(2, { pc := some { ρ := [], n0 := 0, res := bo y60, σ' := [], e := [] } }), (3, { orc := .val (.bool false) })] (by kernel_rfl) (allc (C_retraceref22_from p2.Val 1099511627777 y60 hy60) (allc (congrArg D.bool b61) all0)) (edq (l := []) (ks := [6]) (ρ := []) (st' := ⟨[(6, bo false)], []⟩) (by kernel_rfl) (fun a w hs => ⟨false, h, hs⟩))
          · intro x59 h
            replace h : F_retraceref22_alt_J3 x59 = some r := h
            rw [F_retraceref22_alt_J3] at h
            obtain rfl := some_eq h
            exact At.ret fun a w hs => ret_ok hR (ρ := []) (gs := []) (by kernel_rfl) all0 (by kernel_rfl) rfl rfl a w hs _ (.inl rfl)
        · replace h := cond_f b55 h
          refine At.nr [] [] (by kernel_rfl) ?_
          refine At.skip (norm ?_)
          refine At.seq ?_
          refine At.rg [6] [] [] (by kernel_rfl) all0 (norm ?_)
          obtain rfl := some_eq h
          exact At.ret fun a w hs => ret_ok hR (ρ := []) (gs := []) (by kernel_rfl) all0 (by kernel_rfl) rfl rfl a w hs _ (.inl rfl)
set_option maxRecDepth 100000 in
theorem C_retraceref22_Is (p0 : T_api_Code) (p1 : T_api_Proc) (r : Bool) (h : F_retraceref22_Is p0 p1 = some r) : FnOK Tryz.prog 11 [.agg (T_api_Code.pvs p0), .agg (T_api_Proc.pvs p1)] [] (bo r) [] [] := by
  rw [F_retraceref22_Is] at h
  refine FnOK.intro Tryz.func11 rfl (by kernel_rfl) (by kernel_rfl) fun E gv R hR => ?_
  refine At.seq ?_
  refine At.rg [2, 3] [0, 1] [] (by kernel_rfl) all0 (norm ?_)
  refine At.seq ?_
  refine At.seqJ (S := Bool) (fun s => ⟨[(2, .ptr 0 0), (3, .ptr 1 0), (38, bo s)], [.blk 26 (T_api_Code.pvs p0), .blk 30 (T_api_Proc.pvs p1)]⟩) (fun s => F_retraceref22_Is_J1 p0 p1 s = some r) ?_ ?_
  · obtain ⟨y309, hy309, h⟩ := bind_some h
    rcases tf (!y309) with b310 | b310
    · replace h := cond_t b310 h
      refine At.dg mixedOrd 0 [2, 3, 38] [0, 1] [(0, { r := 2 }), (1, { T := [1], r := 2 }), (2, { r := 2 }), (3, { T := [0], r := 2 }), (4, { r := 2 }), (5, { tip := { pc := some { ρ := [], n0 := 0, res := bo y309, σ' := [], e := [] } }, r := 2 }), (7, { tip := { orc := .val (.bool true) } }), (8, { r := 2 }), (10, { r := 2 }), (11, { r := 2 }), (13, { r := 2 }), (21, { r := 2 }), (23, { r := 2 }), (27, { r := 2 }), (29, { r := 2 })] (by kernel_rfl) (allc (C_retraceref22_from p1.Def ((p0.Defs).length : Int) y309 hy309) (allc (congrArg D.bool b310) all0)) (edq (l := []) (ks := [2, 3, 38]) (ρ := [0, 1]) (st' := ⟨[(2, .ptr 0 0), (3, .ptr 1 0), (38, bo true)], [.blk 26 (T_api_Code.pvs p0), .blk 30 (T_api_Proc.pvs p1)]⟩) (by kernel_rfl) (fun a w hs => ⟨true, h, hs⟩))
    · replace h := cond_f b310 h
      obtain ⟨y311, hy311, h⟩ := bind_some h
      rcases tf (((p1.Vars).length : Int) != y311.Vars) with b312 | b312
      · replace h := cond_t b312 h
        refine At.dg mixedOrd 0 [2, 3, 38] [0, 1] [(0, { r := 2 }), (1, { T := [1], r := 2 }), (2, { r := 2 }), (3, { T := [0], r := 2 }), (4, { r := 2 }), (5, { tip := { pc := some { ρ := [], n0 := 0, res := bo y309, σ' := [], e := [] } }, r := 2 }), (7, { tip := { orc := .val (.bool false) } }), (8, { r := 2 }), (9, { T := [1], r := 2 }), (10, { r := 2 }), (11, { r := 2 }), (12, { T := [0], r := 2 }), (13, { r := 2 }), (14, { T := [1], r := 2 }), (15, { tip := { orc := .cells (T_api_Def.enc y311) } }), (20, { tip := { orc := .val (.bool true) } }), (21, { r := 2 }), (23, { r := 2 }), (27, { r := 2 }), (29, { r := 2 })] (by kernel_rfl) (allc (C_retraceref22_from p1.Def ((p0.Defs).length : Int) y309 hy309) (allc (congrArg D.bool b310) (allc (elemAt_of T_api_Def.enc_len hy311) (allc (congrArg D.bool b312) all0)))) (edq (l := []) (ks := [2, 3, 38]) (ρ := [0, 1]) (st' := ⟨[(2, .ptr 0 0), (3, .ptr 1 0), (38, bo true)], [.blk 26 (T_api_Code.pvs p0), .blk 30 (T_api_Proc.pvs p1)]⟩) (by kernel_rfl) (fun a w hs => ⟨true, h, hs⟩))
      · replace h := cond_f b312 h
        obtain ⟨y313, hy313, h⟩ := bind_some h
        rcases tf (!y313) with b314 | b314
        · replace h := cond_t b314 h
          refine At.dg mixedOrd 0 [2, 3, 38] [0, 1] [(0, { r := 2 }), (1, { T := [1], r := 2 }), (2, { r := 2 }), (3, { T := [0], r := 2 }), (4, { r := 2 }), (5, { tip := { pc := some { ρ := [], n0 := 0, res := bo y309, σ' := [], e := [] } }, r := 2 }), (7, { tip := { orc := .val (.bool false) } }), (8, { r := 2 }), (9, { T := [1], r := 2 }), (10, { r := 2 }), (11, { r := 2 }), (12, { T := [0], r := 2 }), (13, { r := 2 }), (14, { T := [1], r := 2 }), (15, { tip := { orc := .cells (T_api_Def.enc y311) } }), (20, { tip := { orc := .val (.bool false) } }), (21, { r := 2 }), (22, { T := [1], r := 2 }), (23, { tip := { pc := some { ρ := [], n0 := 0, res := bo y313, σ' := [], e := [] } }, r := 2 }), (26, { tip := { orc := .val (.bool true) } }), (27, { r := 2 }), (29, { r := 2 })] (by kernel_rfl) (allc (C_retraceref22_from p1.Def ((p0.Defs).length : Int) y309 hy309) (allc (congrArg D.bool b310) (allc (elemAt_of T_api_Def.enc_len hy311) (allc (congrArg D.bool b312) (allc (C_retraceref22_from p1.Fuel 1048577 y313 hy313) (allc (congrArg D.bool b314) all0)))))) (edq (l := []) (ks := [2, 3, 38]) (ρ := [0, 1]) (st' := ⟨[(2, .ptr 0 0), (3, .ptr 1 0), (38, bo true)], [.blk 26 (T_api_Code.pvs p0), .blk 30 (T_api_Proc.pvs p1)]⟩) (by kernel_rfl) (fun a w hs => ⟨true, h, hs⟩))
        · replace h := cond_f b314 h
          obtain ⟨y315, hy315, h⟩ := bind_some h
          refine At.dg mixedOrd 0 [2, 3, 38] [0, 1] [(0, { r := 2 }), (1, { T := [1], r := 2 }), (2, { r := 2 }), (3, { T := [0], r := 2 }), (4, { r := 2 }), (5, { tip := { pc := some { ρ := [], n0 := 0, res := bo y309, σ' := [], e := [] } }, r := 2 }), (7, { tip := { orc := .val (.bool false) } }), (8, { r := 2 }), (9, { T := [1], r := 2 }), (10, { r := 2 }), (11, { r := 2 }), (12, { T := [0], r := 2 }), (13, { r := 2 }), (14, { T := [1], r := 2 }), (15, { tip := { orc := .cells (T_api_Def.enc y311) } }), (20, { tip := { orc := .val (.bool false) } }), (21, { r := 2 }), (22, { T := [1], r := 2 }), (23, { tip := { pc := some { ρ := [], n0 := 0, res := bo y313, σ' := [], e := [] } }, r := 2 }), (26, { tip := { orc := .val (.bool false) } }), (27, { r := 2 }), (28, { T := [1], r := 2 }), (29, { tip := { pc := some { ρ := [], n0 := 0, res := bo y315, σ' := [], e := [] } }, r := 2 })] (by kernel_rfl) (allc (C_retraceref22_from p1.Def ((p0.Defs).length : Int) y309 hy309) (allc (congrArg D.bool b310) (allc (elemAt_of T_api_Def.enc_len hy311) (allc (congrArg D.bool b312) (allc (C_retraceref22_from p1.Fuel 1048577 y313 hy313) (allc (congrArg D.bool b314) (allc (C_retraceref22_from p1.Since 1099511627777 y315 hy315) all0))))))) (edq (l := []) (ks := [2, 3, 38]) (ρ := [0, 1]) (st' := ⟨[(2, .ptr 0 0), (3, .ptr 1 0), (38, bo (!y315))], [.blk 26 (T_api_Code.pvs p0), .blk 30 (T_api_Proc.pvs p1)]⟩) (by kernel_rfl) (fun a w hs => ⟨(!y315), h, hs⟩))
  · intro x24 h
    replace h : F_retraceref22_Is_J1 p0 p1 x24 = some r := h
    rw [F_retraceref22_Is_J1] at h
    refine At.cond x24 (by kernel_rfl) (fun b25 => ?_) (fun b25 => ?_)
    · replace h := cond_t b25 h
      refine At.seq ?_
      refine At.rg [4] [] [] (by kernel_rfl) all0 (norm ?_)
      obtain rfl := some_eq h
      exact At.ret fun a w hs => ret_ok hR (ρ := []) (gs := []) (by kernel_rfl) all0 (by kernel_rfl) rfl rfl a w hs _ (.inl rfl)
    · replace h := cond_f b25 h
      refine At.nr [2, 3] [0, 1] (by kernel_rfl) ?_
      refine At.skip (norm ?_)
      refine At.seqJ (S := Bool) (fun s => ⟨[(2, .ptr 0 0), (3, .ptr 1 0), (5, bo s)], [.blk 26 (T_api_Code.pvs p0), .blk 30 (T_api_Proc.pvs p1)]⟩) (fun s => F_retraceref22_Is_J2 p0 p1 s = some r) ?_ ?_
      · rcases tf (p1.Mode == 1) with b308 | b308
        · replace h := cond_t b308 h
          refine At.rg [2, 3, 5] [0, 1] [(3, { orc := .val (.bool true) })] (by kernel_rfl) (allc (congrArg D.bool b308) all0) (edq (l := []) (ks := [2, 3, 5]) (ρ := [0, 1]) (st' := ⟨[(2, .ptr 0 0), (3, .ptr 1 0), (5, bo true)], [.blk 26 (T_api_Code.pvs p0), .blk 30 (T_api_Proc.pvs p1)]⟩) (by kernel_rfl) (fun a w hs => ⟨true, h, hs⟩))
        · replace h := cond_f b308 h
          refine At.rg [2, 3, 5] [0, 1] [(3, { orc := .val (.bool false) })] (by kernel_rfl) (allc (congrArg D.bool b308) all0) (edq (l := []) (ks := [2, 3, 5]) (ρ := [0, 1]) (st' := ⟨[(2, .ptr 0 0), (3, .ptr 1 0), (5, bo (p1.Mode == 2))], [.blk 26 (T_api_Code.pvs p0), .blk 30 (T_api_Proc.pvs p1)]⟩) (by kernel_rfl) (fun a w hs => ⟨(p1.Mode == 2), h, hs⟩))
      · intro x27 h
        replace h : F_retraceref22_Is_J2 p0 p1 x27 = some r := h
        rw [F_retraceref22_Is_J2] at h
        refine At.seq ?_
        refine At.seqJ (S := Bool) (fun s => ⟨[(2, .ptr 0 0), (3, .ptr 1 0), (5, bo x27), (83, bo s)], [.blk 26 (T_api_Code.pvs p0), .blk 30 (T_api_Proc.pvs p1)]⟩) (fun s => F_retraceref22_Is_J3 p0 p1 x27 s = some r) ?_ ?_
        · rcases tf (!x27) with b286 | b286
          · replace h := cond_t b286 h
            rcases tf (p1.Chan != 0) with b287 | b287
            · replace h := cond_t b287 h
              refine At.rg [2, 3, 5, 83] [0, 1] [(2, { orc := .val (.bool true) }), (7, { orc := .val (.bool true) })] (by kernel_rfl) (allc (congrArg D.bool b286) (allc (congrArg D.bool b287) all0)) (edq (l := []) (ks := [2, 3, 5, 83]) (ρ := [0, 1]) (st' := ⟨[(2, .ptr 0 0), (3, .ptr 1 0), (5, bo x27), (83, bo true)], [.blk 26 (T_api_Code.pvs p0), .blk 30 (T_api_Proc.pvs p1)]⟩) (by kernel_rfl) (fun a w hs => ⟨true, h, hs⟩))
            · replace h := cond_f b287 h
              rcases tf (p1.Mode != 1) with b288 | b288
              · replace h := cond_t b288 h
                rcases tf (p1.Val != 0) with b289 | b289
                · replace h := cond_t b289 h
                  refine At.rg [2, 3, 5, 83] [0, 1] [(2, { orc := .val (.bool true) }), (7, { orc := .val (.bool false) }), (11, { orc := .val (.bool true) }), (17, { orc := .val (.bool true) })] (by kernel_rfl) (allc (congrArg D.bool b286) (allc (congrArg D.bool b287) (allc (congrArg D.bool b288) (allc (congrArg D.bool b289) all0)))) (edq (l := []) (ks := [2, 3, 5, 83]) (ρ := [0, 1]) (st' := ⟨[(2, .ptr 0 0), (3, .ptr 1 0), (5, bo x27), (83, bo true)], [.blk 26 (T_api_Code.pvs p0), .blk 30 (T_api_Proc.pvs p1)]⟩) (by kernel_rfl) (fun a w hs => ⟨true, h, hs⟩))
                · replace h := cond_f b289 h
                  rcases tf (p1.Mode != 2) with b290 | b290
                  · replace h := cond_t b290 h
                    rcases tf (p1.Slot != 0) with b291 | b291
                    · replace h := cond_t b291 h
                      refine At.rg [2, 3, 5, 83] [0, 1] [(2, { orc := .val (.bool true) }), (7, { orc := .val (.bool false) }), (11, { orc := .val (.bool true) }), (17, { orc := .val (.bool false) }), (21, { orc := .val (.bool true) }), (27, { orc := .val (.bool true) })] (by kernel_rfl) (allc (congrArg D.bool b286) (allc (congrArg D.bool b287) (allc (congrArg D.bool b288) (allc (congrArg D.bool b289) (allc (congrArg D.bool b290) (allc (congrArg D.bool b291) all0)))))) (edq (l := []) (ks := [2, 3, 5, 83]) (ρ := [0, 1]) (st' := ⟨[(2, .ptr 0 0), (3, .ptr 1 0), (5, bo x27), (83, bo true)], [.blk 26 (T_api_Code.pvs p0), .blk 30 (T_api_Proc.pvs p1)]⟩) (by kernel_rfl) (fun a w hs => ⟨true, h, hs⟩))
                    · replace h := cond_f b291 h
                      rcases tf (p1.Mode != 4) with b292 | b292
                      · replace h := cond_t b292 h
                        refine At.rg [2, 3, 5, 83] [0, 1] [(2, { orc := .val (.bool true) }), (7, { orc := .val (.bool false) }), (11, { orc := .val (.bool true) }), (17, { orc := .val (.bool false) }), (21, { orc := .val (.bool true) }), (27, { orc := .val (.bool false) }), (31, { orc := .val (.bool true) })] (by kernel_rfl) (allc (congrArg D.bool b286) (allc (congrArg D.bool b287) (allc (congrArg D.bool b288) (allc (congrArg D.bool b289) (allc (congrArg D.bool b290) (allc (congrArg D.bool b291) (allc (congrArg D.bool b292) all0))))))) (edq (l := []) (ks := [2, 3, 5, 83]) (ρ := [0, 1]) (st' := ⟨[(2, .ptr 0 0), (3, .ptr 1 0), (5, bo x27), (83, bo (p1.Until != 0))], [.blk 26 (T_api_Code.pvs p0), .blk 30 (T_api_Proc.pvs p1)]⟩) (by kernel_rfl) (fun a w hs => ⟨(p1.Until != 0), h, hs⟩))
                      · replace h := cond_f b292 h
                        refine At.rg [2, 3, 5, 83] [0, 1] [(2, { orc := .val (.bool true) }), (7, { orc := .val (.bool false) }), (11, { orc := .val (.bool true) }), (17, { orc := .val (.bool false) }), (21, { orc := .val (.bool true) }), (27, { orc := .val (.bool false) }), (31, { orc := .val (.bool false) })] (by kernel_rfl) (allc (congrArg D.bool b286) (allc (congrArg D.bool b287) (allc (congrArg D.bool b288) (allc (congrArg D.bool b289) (allc (congrArg D.bool b290) (allc (congrArg D.bool b291) (allc (congrArg D.bool b292) all0))))))) (edq (l := []) (ks := [2, 3, 5, 83]) (ρ := [0, 1]) (st' := ⟨[(2, .ptr 0 0), (3, .ptr 1 0), (5, bo x27), (83, bo false)], [.blk 26 (T_api_Code.pvs p0), .blk 30 (T_api_Proc.pvs p1)]⟩) (by kernel_rfl) (fun a w hs => ⟨false, h, hs⟩))
                  · replace h := cond_f b290 h
                    rcases tf (p1.Mode != 4) with b293 | b293
                    · replace h := cond_t b293 h
                      refine At.rg [2, 3, 5, 83] [0, 1] [(2, { orc := .val (.bool true) }), (7, { orc := .val (.bool false) }), (11, { orc := .val (.bool true) }), (17, { orc := .val (.bool false) }), (21, { orc := .val (.bool false) }), (31, { orc := .val (.bool true) })] (by kernel_rfl) (allc (congrArg D.bool b286) (allc (congrArg D.bool b287) (allc (congrArg D.bool b288) (allc (congrArg D.bool b289) (allc (congrArg D.bool b290) (allc (congrArg D.bool b293) all0)))))) (edq (l := []) (ks := [2, 3, 5, 83]) (ρ := [0, 1]) (st' := ⟨[(2, .ptr 0 0), (3, .ptr 1 0), (5, bo x27), (83, bo (p1.Until != 0))], [.blk 26 (T_api_Code.pvs p0), .blk 30 (T_api_Proc.pvs p1)]⟩) (by kernel_rfl) (fun a w hs => ⟨(p1.Until != 0), h, hs⟩))
                    · replace h := cond_f b293 h
                      refine At.rg [2, 3, 5, 83] [0, 1] [(2, { orc := .val (.bool true) }), (7, { orc := .val (.bool false) }), (11, { orc := .val (.bool true) }), (17, { orc := .val (.bool false) }), (21, { orc := .val (.bool false) }), (31, { orc := .val (.bool false) })] (by kernel_rfl) (allc (congrArg D.bool b286) (allc (congrArg D.bool b287) (allc (congrArg D.bool b288) (allc (congrArg D.bool b289) (allc (congrArg D.bool b290) (allc (congrArg D.bool b293) all0)))))) (edq (l := []) (ks := [2, 3, 5, 83]) (ρ := [0, 1]) (st' := ⟨[(2, .ptr 0 0), (3, .ptr 1 0), (5, bo x27), (83, bo false)], [.blk 26 (T_api_Code.pvs p0), .blk 30 (T_api_Proc.pvs p1)]⟩) (by kernel_rfl) (fun a w hs => ⟨false, h, hs⟩))
              · replace h := cond_f b288 h
                rcases tf (p1.Mode != 2) with b294 | b294
                · replace h := cond_t b294 h
                  rcases tf (p1.Slot != 0) with b295 | b295
                  · replace h := cond_t b295 h
                    refine At.rg [2, 3, 5, 83] [0, 1] [(2, { orc := .val (.bool true) }), (7, { orc := .val (.bool false) }), (11, { orc := .val (.bool false) }), (21, { orc := .val (.bool true) }), (27, { orc := .val (.bool true) })] (by kernel_rfl) (allc (congrArg D.bool b286) (allc (congrArg D.bool b287) (allc (congrArg D.bool b288) (allc (congrArg D.bool b294) (allc (congrArg D.bool b295) all0))))) (edq (l := []) (ks := [2, 3, 5, 83]) (ρ := [0, 1]) (st' := ⟨[(2, .ptr 0 0), (3, .ptr 1 0), (5, bo x27), (83, bo true)], [.blk 26 (T_api_Code.pvs p0), .blk 30 (T_api_Proc.pvs p1)]⟩) (by kernel_rfl) (fun a w hs => ⟨true, h, hs⟩))
                  · replace h := cond_f b295 h
                    rcases tf (p1.Mode != 4) with b296 | b296
                    · replace h := cond_t b296 h
                      refine At.rg [2, 3, 5, 83] [0, 1] [(2, { orc := .val (.bool true) }), (7, { orc := .val (.bool false) }), (11, { orc := .val (.bool false) }), (21, { orc := .val (.bool true) }), (27, { orc := .val (.bool false) }), (31, { orc := .val (.bool true) })] (by kernel_rfl) (allc (congrArg D.bool b286) (allc (congrArg D.bool b287) (allc (congrArg D.bool b288) (allc (congrArg D.bool b294) (allc (congrArg D.bool b295) (allc (congrArg D.bool b296) all0)))))) (edq (l := []) (ks := [2, 3, 5, 83]) (ρ := [0, 1]) (st' := ⟨[(2, .ptr 0 0), (3, .ptr 1 0), (5, bo x27), (83, bo (p1.Until != 0))], [.blk 26 (T_api_Code.pvs p0), .blk 30 (T_api_Proc.pvs p1)]⟩) (by kernel_rfl) (fun a w hs => ⟨(p1.Until != 0), h, hs⟩))
                    · replace h := cond_f b296 h
                      refine At.rg [2, 3, 5, 83] [0, 1] [(2, { orc := .val (.bool true) }), (7, { orc := .val (.bool false) }), (11, { orc := .val (.bool false) }), (21, { orc := .val (.bool true) }), (27, { orc := .val (.bool false) }), (31, { orc := .val (.bool false) })] (by kernel_rfl) (allc (congrArg D.bool b286) (allc (congrArg D.bool b287) (allc (congrArg D.bool b288) (allc (congrArg D.bool b294) (allc (congrArg D.bool b295) (allc (congrArg D.bool b296) all0)))))) (edq (l := []) (ks := [2, 3, 5, 83]) (ρ := [0, 1]) (st' := ⟨[(2, .ptr 0 0), (3, .ptr 1 0), (5, bo x27), (83, bo false)], [.blk 26 (T_api_Code.pvs p0), .blk 30 (T_api_Proc.pvs p1)]⟩) (by kernel_rfl) (fun a w hs => ⟨false, h, hs⟩))
                · replace h := cond_f b294 h
                  rcases tf (p1.Mode != 4) with b297 | b297
                  · replace h := cond_t b297 h
                    refine At.rg [2, 3, 5, 83] [0, 1] [(2, { orc := .val (.bool true) }), (7, { orc := .val (.bool false) }), (11, { orc := .val (.bool false) }), (21, { orc := .val (.bool false) }), (31, { orc := .val (.bool true) })] (by kernel_rfl) (allc (congrArg D.bool b286) (allc (congrArg D.bool b287) (allc (congrArg D.bool b288) (allc (congrArg D.bool b294) (allc (congrArg D.bool b297) all0))))) (edq (l := []) (ks := [2, 3, 5, 83]) (ρ := [0, 1]) (st' := ⟨[(2, .ptr 0 0), (3, .ptr 1 0), (5, bo x27), (83, bo (p1.Until != 0))], [.blk 26 (T_api_Code.pvs p0), .blk 30 (T_api_Proc.pvs p1)]⟩) (by kernel_rfl) (fun a w hs => ⟨(p1.Until != 0), h, hs⟩))
                  · replace h := cond_f b297 h
                    refine At.rg [2, 3, 5, 83] [0, 1] [(2, { orc := .val (.bool true) }), (7, { orc := .val (.bool false) }), (11, { orc := .val (.bool false) }), (21, { orc := .val (.bool false) }), (31, { orc := .val (.bool false) })] (by kernel_rfl) (allc (congrArg D.bool b286) (allc (congrArg D.bool b287) (allc (congrArg D.bool b288) (allc (congrArg D.bool b294) (allc (congrArg D.bool b297) all0))))) (edq (l := []) (ks := [2, 3, 5, 83]) (ρ := [0, 1]) (st' := ⟨[(2, .ptr 0 0), (3, .ptr 1 0), (5, bo x27), (83, bo false)], [.blk 26 (T_api_Code.pvs p0), .blk 30 (T_api_Proc.pvs p1)]⟩) (by kernel_rfl) (fun a w hs => ⟨false, h, hs⟩))
          · replace h := cond_f b286 h
            rcases tf (p1.Mode != 1) with b298 | b298
            · replace h := cond_t b298 h
              rcases tf (p1.Val != 0) with b299 | b299
              · replace h := cond_t b299 h
                refine At.rg [2, 3, 5, 83] [0, 1] [(2, { orc := .val (.bool false) }), (11, { orc := .val (.bool true) }), (17, { orc := .val (.bool true) })] (by kernel_rfl) (allc (congrArg D.bool b286) (allc (congrArg D.bool b298) (allc (congrArg D.bool b299) all0))) (edq (l := []) (ks := [2, 3, 5, 83]) (ρ := [0, 1]) (st' := ⟨[(2, .ptr 0 0), (3, .ptr 1 0), (5, bo x27), (83, bo true)], [.blk 26 (T_api_Code.pvs p0), .blk 30 (T_api_Proc.pvs p1)]⟩) (by kernel_rfl) (fun a w hs => ⟨true, h, hs⟩))
              · replace h := cond_f b299 h
                rcases tf (p1.Mode != 2) with b300 | b300
                · replace h := cond_t b300 h
                  rcases tf (p1.Slot != 0) with b301 | b301
                  · replace h := cond_t b301 h
                    refine At.rg [2, 3, 5, 83] [0, 1] [(2, { orc := .val (.bool false) }), (11, { orc := .val (.bool true) }), (17, { orc := .val (.bool false) }), (21, { orc := .val (.bool true) }), (27, { orc := .val (.bool true) })] (by kernel_rfl) (allc (congrArg D.bool b286) (allc (congrArg D.bool b298) (allc (congrArg D.bool b299) (allc (congrArg D.bool b300) (allc (congrArg D.bool b301) all0))))) (edq (l := []) (ks := [2, 3, 5, 83]) (ρ := [0, 1]) (st' := ⟨[(2, .ptr 0 0), (3, .ptr 1 0), (5, bo x27), (83, bo true)], [.blk 26 (T_api_Code.pvs p0), .blk 30 (T_api_Proc.pvs p1)]⟩) (by kernel_rfl) (fun a w hs => ⟨true, h, hs⟩))
                  · replace h := cond_f b301 h
                    rcases tf (p1.Mode != 4) with b302 | b302
                    · replace h := cond_t b302 h
                      refine At.rg [2, 3, 5, 83] [0, 1] [(2, { orc := .val (.bool false) }), (11, { orc := .val (.bool true) }), (17, { orc := .val (.bool false) }), (21, { orc := .val (.bool true) }), (27, { orc := .val (.bool false) }), (31, { orc := .val (.bool true) })] (by kernel_rfl) (allc (congrArg D.bool b286) (allc (congrArg D.bool b298) (allc (congrArg D.bool b299) (allc (congrArg D.bool b300) (allc (congrArg D.bool b301) (allc (congrArg D.bool b302) all0)))))) (edq (l := []) (ks := [2, 3, 5, 83]) (ρ := [0, 1]) (st' := ⟨[(2, .ptr 0 0), (3, .ptr 1 0), (5, bo x27), (83, bo (p1.Until != 0))], [.blk 26 (T_api_Code.pvs p0), .blk 30 (T_api_Proc.pvs p1)]⟩) (by kernel_rfl) (fun a w hs => ⟨(p1.Until != 0), h, hs⟩))
                    · replace h := cond_f b302 h
                      refine At.rg [2, 3, 5, 83] [0, 1] [(2, { orc := .val (.bool false) }), (11, { orc := .val (.bool true) }), (17, { orc := .val (.bool false) }), (21, { orc := .val (.bool true) }), (27, { orc := .val (.bool false) }), (31, { orc := .val (.bool false) })] (by kernel_rfl) (allc (congrArg D.bool b286) (allc (congrArg D.bool b298) (allc (congrArg D.bool b299) (allc (congrArg D.bool b300) (allc (congrArg D.bool b301) (allc (congrArg D.bool b302) all0)))))) (edq (l := []) (ks := [2, 3, 5, 83]) (ρ := [0, 1]) (st' := ⟨[(2, .ptr 0 0), (3, .ptr 1 0), (5, bo x27), (83, bo false)], [.blk 26 (T_api_Code.pvs p0), .blk 30 (T_api_Proc.pvs p1)]⟩) (by kernel_rfl) (fun a w hs => ⟨false, h, hs⟩))
                · replace h := cond_f b300 h
                  rcases tf (p1.Mode != 4) with b303 | b303
                  · replace h := cond_t b303 h
                    refine At.rg [2, 3, 5, 83] [0, 1] [(2, { orc := .val (.bool false) }), (11, { orc := .val (.bool true) }), (17, { orc := .val (.bool false) }), (21, { orc := .val (.bool false) }), (31, { orc := .val (.bool true) })] (by kernel_rfl) (allc (congrArg D.bool b286) (allc (congrArg D.bool b298) (allc (congrArg D.bool b299) (allc (congrArg D.bool b300) (allc (congrArg D.bool b303) all0))))) (edq (l := []) (ks := [2, 3, 5, 83]) (ρ := [0, 1]) (st' := ⟨[(2, .ptr 0 0), (3, .ptr 1 0), (5, bo x27), (83, bo (p1.Until != 0))], [.blk 26 (T_api_Code.pvs p0), .blk 30 (T_api_Proc.pvs p1)]⟩) (by kernel_rfl) (fun a w hs => ⟨(p1.Until != 0), h, hs⟩))
                  · replace h := cond_f b303 h
                    refine At.rg [2, 3, 5, 83] [0, 1] [(2, { orc := .val (.bool false) }), (11, { orc := .val (.bool true) }), (17, { orc := .val (.bool false) }), (21, { orc := .val (.bool false) }), (31, { orc := .val (.bool false) })] (by kernel_rfl) (allc (congrArg D.bool b286) (allc (congrArg D.bool b298) (allc (congrArg D.bool b299) (allc (congrArg D.bool b300) (allc (congrArg D.bool b303) all0))))) (edq (l := []) (ks := [2, 3, 5, 83]) (ρ := [0, 1]) (st' := ⟨[(2, .ptr 0 0), (3, .ptr 1 0), (5, bo x27), (83, bo false)], [.blk 26 (T_api_Code.pvs p0), .blk 30 (T_api_Proc.pvs p1)]⟩) (by kernel_rfl) (fun a w hs => ⟨false, h, hs⟩))
            · replace h := cond_f b298 h
              rcases tf (p1.Mode != 2) with b304 | b304
              · replace h := cond_t b304 h
                rcases tf (p1.Slot != 0) with b305 | b305
                · replace h := cond_t b305 h
                  refine At.rg [2, 3, 5, 83] [0, 1] [(2, { orc := .val (.bool false) }), (11, { orc := .val (.bool false) }), (21, { orc := .val (.bool true) }), (27, { orc := .val (.bool true) })] (by kernel_rfl) (allc (congrArg D.bool b286) (allc (congrArg D.bool b298) (allc (congrArg D.bool b304) (allc (congrArg D.bool b305) all0)))) (edq (l := []) (ks := [2, 3, 5, 83]) (ρ := [0, 1]) (st' := ⟨[(2, .ptr 0 0), (3, .ptr 1 0), (5, bo x27), (83, bo true)], [.blk 26 (T_api_Code.pvs p0), .blk 30 (T_api_Proc.pvs p1)]⟩) (by kernel_rfl) (fun a w hs => ⟨true, h, hs⟩))
                · replace h := cond_f b305 h
                  rcases tf (p1.Mode != 4) with b306 | b306
                  · replace h := cond_t b306 h
                    refine At.rg [2, 3, 5, 83] [0, 1] [(2, { orc := .val (.bool false) }), (11, { orc := .val (.bool false) }), (21, { orc := .val (.bool true) }), (27, { orc := .val (.bool false) }), (31, { orc := .val (.bool true) })] (by kernel_rfl) (allc (congrArg D.bool b286) (allc (congrArg D.bool b298) (allc (congrArg D.bool b304) (allc (congrArg D.bool b305) (allc (congrArg D.bool b306) all0))))) (edq (l := []) (ks := [2, 3, 5, 83]) (ρ := [0, 1]) (st' := ⟨[(2, .ptr 0 0), (3, .ptr 1 0), (5, bo x27), (83, bo (p1.Until != 0))], [.blk 26 (T_api_Code.pvs p0), .blk 30 (T_api_Proc.pvs p1)]⟩) (by kernel_rfl) (fun a w hs => ⟨(p1.Until != 0), h, hs⟩))
                  · replace h := cond_f b306 h
                    refine At.rg [2, 3, 5, 83] [0, 1] [(2, { orc := .val (.bool false) }), (11, { orc := .val (.bool false) }), (21, { orc := .val (.bool true) }), (27, { orc := .val (.bool false) }), (31, { orc := .val (.bool false) })] (by kernel_rfl) (allc (congrArg D.bool b286) (allc (congrArg D.bool b298) (allc (congrArg D.bool b304) (allc (congrArg D.bool b305) (allc (congrArg D.bool b306) all0))))) (edq (l := []) (ks := [2, 3, 5, 83]) (ρ := [0, 1]) (st' := ⟨[(2, .ptr 0 0), (3, .ptr 1 0), (5, bo x27), (83, bo false)], [.blk 26 (T_api_Code.pvs p0), .blk 30 (T_api_Proc.pvs p1)]⟩) (by kernel_rfl) (fun a w hs => ⟨false, h, hs⟩))
              · replace h := cond_f b304 h
                rcases tf (p1.Mode != 4) with b307 | b307
                · replace h := cond_t b307 h
                  refine At.rg [2, 3, 5, 83] [0, 1] [(2, { orc := .val (.bool false) }), (11, { orc := .val (.bool false) }), (21, { orc := .val (.bool false) }), (31, { orc := .val (.bool true) })] (by kernel_rfl) (allc (congrArg D.bool b286) (allc (congrArg D.bool b298) (allc (congrArg D.bool b304) (allc (congrArg D.bool b307) all0)))) (edq (l := []) (ks := [2, 3, 5, 83]) (ρ := [0, 1]) (st' := ⟨[(2, .ptr 0 0), (3, .ptr 1 0), (5, bo x27), (83, bo (p1.Until != 0))], [.blk 26 (T_api_Code.pvs p0), .blk 30 (T_api_Proc.pvs p1)]⟩) (by kernel_rfl) (fun a w hs => ⟨(p1.Until != 0), h, hs⟩))
                · replace h := cond_f b307 h
                  refine At.rg [2, 3, 5, 83] [0, 1] [(2, { orc := .val (.bool false) }), (11, { orc := .val (.bool false) }), (21, { orc := .val (.bool false) }), (31, { orc := .val (.bool false) })] (by kernel_rfl) (allc (congrArg D.bool b286) (allc (congrArg D.bool b298) (allc (congrArg D.bool b304) (allc (congrArg D.bool b307) all0)))) (edq (l := []) (ks := [2, 3, 5, 83]) (ρ := [0, 1]) (st' := ⟨[(2, .ptr 0 0), (3, .ptr 1 0), (5, bo x27), (83, bo false)], [.blk 26 (T_api_Code.pvs p0), .blk 30 (T_api_Proc.pvs p1)]⟩) (by kernel_rfl) (fun a w hs => ⟨false, h, hs⟩))
        · intro x96 h
          replace h : F_retraceref22_Is_J3 p0 p1 x27 x96 = some r := h
          rw [F_retraceref22_Is_J3] at h
          refine At.cond x96 (by kernel_rfl) (fun b97 => ?_) (fun b97 => ?_)
          · replace h := cond_t b97 h
            refine At.seq ?_
            refine At.rg [4] [] [] (by kernel_rfl) all0 (norm ?_)
            obtain rfl := some_eq h
            exact At.ret fun a w hs => ret_ok hR (ρ := []) (gs := []) (by kernel_rfl) all0 (by kernel_rfl) rfl rfl a w hs _ (.inl rfl)
          · replace h := cond_f b97 h
            refine At.nr [2, 3, 5] [0, 1] (by kernel_rfl) ?_
            refine At.skip (norm ?_)
            refine At.seq ?_
            refine At.seqJ (S := Bool) (fun s => ⟨[(2, .ptr 0 0), (3, .ptr 1 0), (106, bo s)], [.blk 26 (T_api_Code.pvs p0), .blk 30 (T_api_Proc.pvs p1)]⟩) (fun s => F_retraceref22_Is_J4 p0 p1 s = some r) ?_ ?_
            · rcases tf (!x27) with b280 | b280
              · replace h := cond_t b280 h
                rcases tf (p1.Mode != 3) with b281 | b281
                · replace h := cond_t b281 h
                  rcases tf (p1.Since != 0) with b282 | b282
                  · replace h := cond_t b282 h
                    refine At.rg [2, 3, 106] [0, 1] [(2, { orc := .val (.bool true) }), (7, { orc := .val (.bool true) }), (12, { orc := .val (.bool true) })] (by kernel_rfl) (allc (congrArg D.bool b280) (allc (congrArg D.bool b281) (allc (congrArg D.bool b282) all0))) (edq (l := []) (ks := [2, 3, 106]) (ρ := [0, 1]) (st' := ⟨[(2, .ptr 0 0), (3, .ptr 1 0), (106, bo true)], [.blk 26 (T_api_Code.pvs p0), .blk 30 (T_api_Proc.pvs p1)]⟩) (by kernel_rfl) (fun a w hs => ⟨true, h, hs⟩))
                  · replace h := cond_f b282 h
                    rcases tf (p1.Mode != 3) with b283 | b283
                    · replace h := cond_t b283 h
                      refine At.rg [2, 3, 106] [0, 1] [(2, { orc := .val (.bool true) }), (7, { orc := .val (.bool true) }), (12, { orc := .val (.bool false) }), (16, { orc := .val (.bool true) })] (by kernel_rfl) (allc (congrArg D.bool b280) (allc (congrArg D.bool b281) (allc (congrArg D.bool b282) (allc (congrArg D.bool b283) all0)))) (edq (l := []) (ks := [2, 3, 106]) (ρ := [0, 1]) (st' := ⟨[(2, .ptr 0 0), (3, .ptr 1 0), (106, bo (decide (0 < ((p1.Alts).length : Int))))], [.blk 26 (T_api_Code.pvs p0), .blk 30 (T_api_Proc.pvs p1)]⟩) (by kernel_rfl) (fun a w hs => ⟨(decide (0 < ((p1.Alts).length : Int))), h, hs⟩))
                    · replace h := cond_f b283 h
                      refine At.rg [2, 3, 106] [0, 1] [(2, { orc := .val (.bool true) }), (7, { orc := .val (.bool true) }), (12, { orc := .val (.bool false) }), (16, { orc := .val (.bool false) })] (by kernel_rfl) (allc (congrArg D.bool b280) (allc (congrArg D.bool b281) (allc (congrArg D.bool b282) (allc (congrArg D.bool b283) all0)))) (edq (l := []) (ks := [2, 3, 106]) (ρ := [0, 1]) (st' := ⟨[(2, .ptr 0 0), (3, .ptr 1 0), (106, bo false)], [.blk 26 (T_api_Code.pvs p0), .blk 30 (T_api_Proc.pvs p1)]⟩) (by kernel_rfl) (fun a w hs => ⟨false, h, hs⟩))
                · replace h := cond_f b281 h
                  rcases tf (p1.Mode != 3) with b284 | b284
                  · replace h := cond_t b284 h
                    refine At.rg [2, 3, 106] [0, 1] [(2, { orc := .val (.bool true) }), (7, { orc := .val (.bool false) }), (16, { orc := .val (.bool true) })] (by kernel_rfl) (allc (congrArg D.bool b280) (allc (congrArg D.bool b281) (allc (congrArg D.bool b284) all0))) (edq (l := []) (ks := [2, 3, 106]) (ρ := [0, 1]) (st' := ⟨[(2, .ptr 0 0), (3, .ptr 1 0), (106, bo (decide (0 < ((p1.Alts).length : Int))))], [.blk 26 (T_api_Code.pvs p0), .blk 30 (T_api_Proc.pvs p1)]⟩) (by kernel_rfl) (fun a w hs => ⟨(decide (0 < ((p1.Alts).length : Int))), h, hs⟩))
                  · replace h := cond_f b284 h
                    refine At.rg [2, 3, 106] [0, 1] [(2, { orc := .val (.bool true) }), (7, { orc := .val (.bool false) }), (16, { orc := .val (.bool false) })] (by kernel_rfl) (allc (congrArg D.bool b280) (allc (congrArg D.bool b281) (allc (congrArg D.bool b284) all0))) (edq (l := []) (ks := [2, 3, 106]) (ρ := [0, 1]) (st' := ⟨[(2, .ptr 0 0), (3, .ptr 1 0), (106, bo false)], [.blk 26 (T_api_Code.pvs p0), .blk 30 (T_api_Proc.pvs p1)]⟩) (by kernel_rfl) (fun a w hs => ⟨false, h, hs⟩))
              · replace h := cond_f b280 h
                rcases tf (p1.Mode != 3) with b285 | b285
                · replace h := cond_t b285 h
                  refine At.rg [2, 3, 106] [0, 1] [(2, { orc := .val (.bool false) }), (16, { orc := .val (.bool true) })] (by kernel_rfl) (allc (congrArg D.bool b280) (allc (congrArg D.bool b285) all0)) (edq (l := []) (ks := [2, 3, 106]) (ρ := [0, 1]) (st' := ⟨[(2, .ptr 0 0), (3, .ptr 1 0), (106, bo (decide (0 < ((p1.Alts).length : Int))))], [.blk 26 (T_api_Code.pvs p0), .blk 30 (T_api_Proc.pvs p1)]⟩) (by kernel_rfl) (fun a w hs => ⟨(decide (0 < ((p1.Alts).length : Int))), h, hs⟩))
                · replace h := cond_f b285 h
                  refine At.rg [2, 3, 106] [0, 1] [(2, { orc := .val (.bool false) }), (16, { orc := .val (.bool false) })] (by kernel_rfl) (allc (congrArg D.bool b280) (allc (congrArg D.bool b285) all0)) (edq (l := []) (ks := [2, 3, 106]) (ρ := [0, 1]) (st' := ⟨[(2, .ptr 0 0), (3, .ptr 1 0), (106, bo false)], [.blk 26 (T_api_Code.pvs p0), .blk 30 (T_api_Proc.pvs p1)]⟩) (by kernel_rfl) (fun a w hs => ⟨false, h, hs⟩))
            · intro x118 h
              replace h : F_retraceref22_Is_J4 p0 p1 x118 = some r := h
              rw [F_retraceref22_Is_J4] at h
              refine At.cond x118 (by kernel_rfl) (fun b119 => ?_) (fun b119 => ?_)
              · replace h := cond_t b119 h
                refine At.seq ?_
                refine At.rg [4] [] [] (by kernel_rfl) all0 (norm ?_)
                obtain rfl := some_eq h
                exact At.ret fun a w hs => ret_ok hR (ρ := []) (gs := []) (by kernel_rfl) all0 (by kernel_rfl) rfl rfl a w hs _ (.inl rfl)
              · replace h := cond_f b119 h
                refine At.nr [2, 3] [0, 1] (by kernel_rfl) ?_
                refine At.skip (norm ?_)
                refine At.seq ?_
                refine At.seq ?_
                refine At.rg [2, 3, 108] [0, 1] [] (by kernel_rfl) all0 (norm ?_)
                refine At.block ?_
                refine At.seqJ (S := Bool) (fun s => ⟨[(2, .ptr 0 0), (3, .ptr 1 0), (108, i64 p1.Mode), (109, bo s)], [.blk 26 (T_api_Code.pvs p0), .blk 30 (T_api_Proc.pvs p1)]⟩) (fun s => F_retraceref22_Is_J5 p0 p1 s = some r) ?_ ?_
                · refine At.seq ?_
                  refine At.rg [2, 3, 108, 109] [0, 1] [] (by kernel_rfl) all0 (norm ?_)
                  refine At.cond (p1.Mode == 0) (by kernel_rfl) (fun b279 => ?_) (fun b279 => ?_)
                  · replace h := cond_t b279 h
                    refine At.skip (edq (l := []) (ks := [2, 3, 108, 109]) (ρ := [0, 1]) (st' := ⟨[(2, .ptr 0 0), (3, .ptr 1 0), (108, i64 p1.Mode), (109, bo (p1.Mode == 0))], [.blk 26 (T_api_Code.pvs p0), .blk 30 (T_api_Proc.pvs p1)]⟩) (by kernel_rfl) (fun a w hs => ⟨(p1.Mode == 0), h, hs⟩))
                  · replace h := cond_f b279 h
                    refine At.rg [2, 3, 108, 109] [0, 1] [] (by kernel_rfl) all0 (edq (l := []) (ks := [2, 3, 108, 109]) (ρ := [0, 1]) (st' := ⟨[(2, .ptr 0 0), (3, .ptr 1 0), (108, i64 p1.Mode), (109, bo (p1.Mode == 6))], [.blk 26 (T_api_Code.pvs p0), .blk 30 (T_api_Proc.pvs p1)]⟩) (by kernel_rfl) (fun a w hs => ⟨(p1.Mode == 6), h, hs⟩))
                · intro x201 h
                  replace h : F_retraceref22_Is_J5 p0 p1 x201 = some r := h
                  rw [F_retraceref22_Is_J5] at h
                  refine At.cond x201 (by kernel_rfl) (fun b202 => ?_) (fun b202 => ?_)
                  · replace h := cond_t b202 h
                    refine At.seq ?_
                    obtain ⟨y204, hy204, h⟩ := bind_some h
                    refine At.rg [4] [] [(5, { pc := some { ρ := [], n0 := 0, res := bo y204, σ' := [], e := [] } })] (by kernel_rfl) (allc (C_retraceref22_is p0 p1.Def p1.At 1 y204 hy204) all0) (norm ?_)
                    obtain rfl := some_eq h
                    exact At.ret fun a w hs => ret_ok hR (ρ := []) (gs := []) (by kernel_rfl) all0 (by kernel_rfl) rfl rfl a w hs _ (.inl rfl)
                  · replace h := cond_f b202 h
                    refine At.seq ?_
                    refine At.rg [2, 3, 108, 118] [0, 1] [] (by kernel_rfl) all0 (norm ?_)
                    refine At.cond (p1.Mode == 1) (by kernel_rfl) (fun b205 => ?_) (fun b205 => ?_)
                    · replace h := cond_t b205 h
                      refine At.seqJ (S := Bool) (fun s => ⟨[(4, bo s)], []⟩) (fun s => F_retraceref22_Is_J6 s = some r) ?_ ?_
                      · obtain ⟨y211, hy211, h⟩ := bind_some h
                        rcases tf y211 with b212 | b212
                        · replace h := cond_t b212 h
                          obtain ⟨y213, hy213, h⟩ := bind_some h
                          obtain ⟨y214, hy214, h⟩ := bind_some h
                          refine At.dg mixedOrd 0 [4] [] [(0, { T := [0], r := 2 }), (1, { r := 2 }), (2, { T := [1], r := 2 }), (3, { r := 2 }), (4, { T := [1], r := 2 }), (5, { tip := { pc := some { ρ := [], n0 := 0, res := bo y211, σ' := [], e := [] } }, r := 2 }), (6, { tip := { orc := .val (.bool true) } }), (7, { r := 2 }), (8, { T := [1], r := 2 }), (9, { T := [0], r := 2 }), (10, { tip := { pc := some { ρ := [], n0 := 0, res := i64 y213, σ' := [], e := [] } }, r := 2 }), (11, { tip := { pc := some { ρ := [], n0 := 0, res := bo y214, σ' := [], e := [] } }, r := 2 })] (by kernel_rfl) (allc (C_retraceref22_Rests p0 p1.Def p1.At y211 hy211) (allc (congrArg D.bool b212) (allc (C_retraceref22_Chans p0 y213 hy213) (allc (C_retraceref22_from p1.Chan y213 y214 hy214) all0)))) (edq (l := []) (ks := [4]) (ρ := []) (st' := ⟨[(4, bo y214)], []⟩) (by kernel_rfl) (fun a w hs => ⟨y214, h, hs⟩))
                        · replace h := cond_f b212 h
                          refine At.dg mixedOrd 0 [4] [] [(0, { T := [0], r := 2 }), (1, { r := 2 }), (2, { T := [1], r := 2 }), (3, { r := 2 }), (4, { T := [1], r := 2 }), (5, { tip := { pc := some { ρ := [], n0 := 0, res := bo y211, σ' := [], e := [] } }, r := 2 }), (6, { tip := { orc := .val (.bool false) } }), (7, { r := 2 }), (9, { T := [0], r := 2 }), (10, { r := 2 }), (11, { r := 2 })] (by kernel_rfl) (allc (C_retraceref22_Rests p0 p1.Def p1.At y211 hy211) (allc (congrArg D.bool b212) all0)) (edq (l := []) (ks := [4]) (ρ := []) (st' := ⟨[(4, bo false)], []⟩) (by kernel_rfl) (fun a w hs => ⟨false, h, hs⟩))
                      · intro x210 h
                        replace h : F_retraceref22_Is_J6 x210 = some r := h
                        rw [F_retraceref22_Is_J6] at h
                        obtain rfl := some_eq h
                        exact At.ret fun a w hs => ret_ok hR (ρ := []) (gs := []) (by kernel_rfl) all0 (by kernel_rfl) rfl rfl a w hs _ (.inl rfl)
                    · replace h := cond_f b205 h
                      refine At.seq ?_
                      refine At.rg [2, 3, 108, 133] [0, 1] [] (by kernel_rfl) all0 (norm ?_)
                      refine At.cond (p1.Mode == 2) (by kernel_rfl) (fun b215 => ?_) (fun b215 => ?_)
                      · replace h := cond_t b215 h
                        refine At.seqJ (S := Bool) (fun s => ⟨[(4, bo s)], []⟩) (fun s => F_retraceref22_Is_J7 s = some r) ?_ ?_
                        · obtain ⟨y223, hy223, h⟩ := bind_some h
                          rcases tf y223 with b224 | b224
                          · replace h := cond_t b224 h
                            obtain ⟨y225, hy225, h⟩ := bind_some h
                            obtain ⟨y226, hy226, h⟩ := bind_some h
                            rcases tf y226 with b227 | b227
                            · replace h := cond_t b227 h
                              obtain ⟨y228, hy228, h⟩ := bind_some h
                              refine At.dg mixedOrd 0 [4] [] [(0, { T := [0], r := 2 }), (1, { r := 2 }), (2, { T := [1], r := 2 }), (3, { r := 2 }), (4, { T := [1], r := 2 }), (5, { tip := { pc := some { ρ := [], n0 := 0, res := bo y223, σ' := [], e := [] } }, r := 2 }), (6, { tip := { orc := .val (.bool true) } }), (7, { r := 2 }), (8, { T := [1], r := 2 }), (9, { T := [0], r := 2 }), (10, { tip := { pc := some { ρ := [], n0 := 0, res := i64 y225, σ' := [], e := [] } }, r := 2 }), (11, { tip := { pc := some { ρ := [], n0 := 0, res := bo y226, σ' := [], e := [] } }, r := 2 }), (13, { tip := { orc := .val (.bool true) } }), (14, { r := 2 }), (15, { T := [1], r := 2 }), (16, { r := 2 }), (17, { T := [1], r := 2 }), (18, { r := 2 }), (19, { tip := { pc := some { ρ := [], n0 := 0, res := bo y228, σ' := [], e := [] } }, r := 2 })] (by kernel_rfl) (allc (C_retraceref22_Rests p0 p1.Def p1.At y223 hy223) (allc (congrArg D.bool b224) (allc (C_retraceref22_Chans p0 y225 hy225) (allc (C_retraceref22_from p1.Chan y225 y226 hy226) (allc (congrArg D.bool b227) (allc (C_retraceref22_from p1.Slot ((p1.Vars).length : Int) y228 hy228) all0)))))) (edq (l := []) (ks := [4]) (ρ := []) (st' := ⟨[(4, bo y228)], []⟩) (by kernel_rfl) (fun a w hs => ⟨y228, h, hs⟩))
                            · replace h := cond_f b227 h
                              refine At.dg mixedOrd 0 [4] [] [(0, { T := [0], r := 2 }), (1, { r := 2 }), (2, { T := [1], r := 2 }), (3, { r := 2 }), (4, { T := [1], r := 2 }), (5, { tip := { pc := some { ρ := [], n0 := 0, res := bo y223, σ' := [], e := [] } }, r := 2 }), (6, { tip := { orc := .val (.bool true) } }), (7, { r := 2 }), (8, { T := [1], r := 2 }), (9, { T := [0], r := 2 }), (10, { tip := { pc := some { ρ := [], n0 := 0, res := i64 y225, σ' := [], e := [] } }, r := 2 }), (11, { tip := { pc := some { ρ := [], n0 := 0, res := bo y226, σ' := [], e := [] } }, r := 2 }), (13, { tip := { orc := .val (.bool false) } }), (14, { r := 2 }), (16, { r := 2 }), (18, { r := 2 }), (19, { r := 2 })] (by kernel_rfl) (allc (C_retraceref22_Rests p0 p1.Def p1.At y223 hy223) (allc (congrArg D.bool b224) (allc (C_retraceref22_Chans p0 y225 hy225) (allc (C_retraceref22_from p1.Chan y225 y226 hy226) (allc (congrArg D.bool b227) all0))))) (edq (l := []) (ks := [4]) (ρ := []) (st' := ⟨[(4, bo false)], []⟩) (by kernel_rfl) (fun a w hs => ⟨false, h, hs⟩))
                          · replace h := cond_f b224 h
                            refine At.dg mixedOrd 0 [4] [] [(0, { T := [0], r := 2 }), (1, { r := 2 }), (2, { T := [1], r := 2 }), (3, { r := 2 }), (4, { T := [1], r := 2 }), (5, { tip := { pc := some { ρ := [], n0 := 0, res := bo y223, σ' := [], e := [] } }, r := 2 }), (6, { tip := { orc := .val (.bool false) } }), (7, { r := 2 }), (9, { T := [0], r := 2 }), (10, { r := 2 }), (11, { r := 2 }), (14, { r := 2 }), (16, { r := 2 }), (18, { r := 2 }), (19, { r := 2 })] (by kernel_rfl) (allc (C_retraceref22_Rests p0 p1.Def p1.At y223 hy223) (allc (congrArg D.bool b224) all0)) (edq (l := []) (ks := [4]) (ρ := []) (st' := ⟨[(4, bo false)], []⟩) (by kernel_rfl) (fun a w hs => ⟨false, h, hs⟩))
                        · intro x222 h
                          replace h : F_retraceref22_Is_J7 x222 = some r := h
                          rw [F_retraceref22_Is_J7] at h
                          obtain rfl := some_eq h
                          exact At.ret fun a w hs => ret_ok hR (ρ := []) (gs := []) (by kernel_rfl) all0 (by kernel_rfl) rfl rfl a w hs _ (.inl rfl)
                      · replace h := cond_f b215 h
                        refine At.seq ?_
                        refine At.rg [2, 3, 108, 156] [0, 1] [] (by kernel_rfl) all0 (norm ?_)
                        refine At.cond (p1.Mode == 4) (by kernel_rfl) (fun b229 => ?_) (fun b229 => ?_)
                        · replace h := cond_t b229 h
                          refine At.seqJ (S := Bool) (fun s => ⟨[(4, bo s)], []⟩) (fun s => F_retraceref22_Is_J8 s = some r) ?_ ?_
                          · obtain ⟨y234, hy234, h⟩ := bind_some h
                            rcases tf y234 with b235 | b235
                            · replace h := cond_t b235 h
                              obtain ⟨y236, hy236, h⟩ := bind_some h
                              refine At.rg [4] [] [(5, { pc := some { ρ := [], n0 := 0, res := bo y234, σ' := [], e := [] } }), (6, { orc := .val (.bool true) }), (9, { pc := some { ρ := [], n0 := 0, res := bo y236, σ' := [], e := [] } })] (by kernel_rfl) (allc (C_retraceref22_Rests p0 p1.Def p1.At y234 hy234) (allc (congrArg D.bool b235) (allc (C_retraceref22_from p1.Until 1099511627777 y236 hy236) all0))) (edq (l := []) (ks := [4]) (ρ := []) (st' := ⟨[(4, bo y236)], []⟩) (by kernel_rfl) (fun a w hs => ⟨y236, h, hs⟩))
                            · replace h := cond_f b235 h
                              refine At.rg [4] [] [(5, { pc := some { ρ := [], n0 := 0, res := bo y234, σ' := [], e := [] } }), (6, { orc := .val (.bool false) })] (by kernel_rfl) (allc (C_retraceref22_Rests p0 p1.Def p1.At y234 hy234) (allc (congrArg D.bool b235) all0)) (edq (l := []) (ks := [4]) (ρ := []) (st' := ⟨[(4, bo false)], []⟩) (by kernel_rfl) (fun a w hs => ⟨false, h, hs⟩))
                          · intro x233 h
                            replace h : F_retraceref22_Is_J8 x233 = some r := h
                            rw [F_retraceref22_Is_J8] at h
                            obtain rfl := some_eq h
                            exact At.ret fun a w hs => ret_ok hR (ρ := []) (gs := []) (by kernel_rfl) all0 (by kernel_rfl) rfl rfl a w hs _ (.inl rfl)
                        · replace h := cond_f b229 h
                          refine At.seq ?_
                          refine At.rg [2, 3, 108, 169] [0, 1] [] (by kernel_rfl) all0 (norm ?_)
                          refine At.cond (p1.Mode == 5) (by kernel_rfl) (fun b237 => ?_) (fun b237 => ?_)
                          · replace h := cond_t b237 h
                            refine At.seq ?_
                            refine At.rg [4] [] [] (by kernel_rfl) all0 (norm ?_)
                            obtain rfl := some_eq h
                            exact At.ret fun a w hs => ret_ok hR (ρ := []) (gs := []) (by kernel_rfl) all0 (by kernel_rfl) rfl rfl a w hs _ (.inl rfl)
                          · replace h := cond_f b237 h
                            refine At.seq ?_
                            refine At.rg [2, 3, 174] [0, 1] [] (by kernel_rfl) all0 (norm ?_)
                            refine At.cond (p1.Mode == 3) (by kernel_rfl) (fun b238 => ?_) (fun b238 => ?_)
                            · replace h := cond_t b238 h
                              refine At.seq ?_
                              refine At.seq ?_
                              refine At.region_end [2, 3, 6] [0, 1] _ (st' := ⟨[(2, .ptr 0 0), (3, .ptr 1 0), (6, i64 0)], [.blk 26 (T_api_Code.pvs p0), .blk 30 (T_api_Proc.pvs p1)]⟩) (tips := []) (by kernel_rfl) all0 (norm ?_)
                              refine At.block ?_
                              refine At.loop (fun s : (Int) => F_retraceref22_Is_L9 p0 p1 s) (fun s : (Int) => ⟨[(2, .ptr 0 0), (3, .ptr 1 0), (6, i64 s)], [.blk 26 (T_api_Code.pvs p0), .blk 30 (T_api_Proc.pvs p1)]⟩) r 0 h ?_
                              intro x258 oo259 h f260
                              replace h : F_retraceref22_Is_L9 p0 p1 x258 = some oo259 := h
                              rw [F_retraceref22_Is_L9] at h
                              refine At.seq ?_
                              refine At.seq ?_
                              refine At.rg [2, 3, 6, 180] [0, 1] [] (by kernel_rfl) all0 (norm ?_)
                              refine At.cond (decide (x258 < ((p1.Alts).length : Int))) (by kernel_rfl) (fun b262 => ?_) (fun b262 => ?_)
                              · replace h := cond_t b262 h
                                refine At.nr [2, 3, 6] [0, 1] (by kernel_rfl) ?_
                                refine At.skip (norm ?_)
                                refine At.seq ?_
                                refine At.block ?_
                                refine At.seq ?_
                                obtain ⟨y270, hy270, h⟩ := bind_some h
                                obtain ⟨y271, hy271, h⟩ := bind_some h
                                refine At.dg mixedOrd 0 [2, 3, 6, 191] [0, 1] [(0, { T := [0], r := 2 }), (1, { T := [1], r := 2 }), (2, { r := 2 }), (3, { T := [1], r := 2 }), (5, { tip := { orc := .cells (T_api_Alt.enc y270) } }), (7, { tip := { pc := some { ρ := [], n0 := 0, res := bo y271, σ' := [], e := [] } }, r := 2 })] (by kernel_rfl) (allc (elemAt_of T_api_Alt.enc_len hy270) (allc (C_retraceref22_alt p0 p1 y270 y271 hy271) all0)) (norm ?_)
                                refine At.cond (!y271) (by kernel_rfl) (fun b272 => ?_) (fun b272 => ?_)
                                · replace h := cond_t b272 h
                                  refine At.seq ?_
                                  refine At.rg [4] [] [] (by kernel_rfl) all0 (norm ?_)
                                  obtain ⟨r273, h, e274⟩ := map_inr h
                                  rw [f260 _ e274] at h
                                  obtain rfl := some_eq h
                                  exact At.ret fun a w hs => ret_ok hR (ρ := []) (gs := []) (by kernel_rfl) all0 (by kernel_rfl) rfl rfl a w hs _ (.inl rfl)
                                · replace h := cond_f b272 h
                                  refine At.nr [2, 3, 6] [0, 1] (by kernel_rfl) ?_
                                  refine At.skip (norm ?_)
                                  refine At.rg [2, 3, 6] [0, 1] [] (by kernel_rfl) all0 (edq (l := []) (ks := [2, 3, 6]) (ρ := [0, 1]) (st' := ⟨[(2, .ptr 0 0), (3, .ptr 1 0), (6, i64 (w64 (x258 + 1)))], [.blk 26 (T_api_Code.pvs p0), .blk 30 (T_api_Proc.pvs p1)]⟩) (by kernel_rfl) (fun a w hs => ⟨_, (some_eq h).symm, hs⟩))
                              · replace h := cond_f b262 h
                                refine At.nr [2, 3] [0, 1] (by kernel_rfl) ?_
                                obtain ⟨r275, h, e276⟩ := map_inr h
                                rw [f260 _ e276] at h
                                refine At.exit (norm ?_)
                                refine At.seq ?_
                                obtain ⟨y278, hy278, h⟩ := bind_some h
                                refine At.rg [4] [] [(5, { pc := some { ρ := [], n0 := 0, res := bo y278, σ' := [], e := [] } })] (by kernel_rfl) (allc (C_retraceref22_is p0 p1.Def p1.At 1 y278 hy278) all0) (norm ?_)
                                obtain rfl := some_eq h
                                exact At.ret fun a w hs => ret_ok hR (ρ := []) (gs := []) (by kernel_rfl) all0 (by kernel_rfl) rfl rfl a w hs _ (.inl rfl)
                            · replace h := cond_f b238 h
                              refine At.nar [] [] (st' := ⟨[], []⟩) (by kernel_rfl) ?_
                              refine At.skip (norm ?_)
                              refine At.seq ?_
                              refine At.rg [4] [] [] (by kernel_rfl) all0 (norm ?_)
                              obtain rfl := some_eq h
                              exact At.ret fun a w hs => ret_ok hR (ρ := []) (gs := []) (by kernel_rfl) all0 (by kernel_rfl) rfl rfl a w hs _ (.inl rfl)
end Go.Ab
