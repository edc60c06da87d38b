import Derived.Test.YtgihgmnmefbjbaaGreatGZ2
namespace Go.Ab
open Go.Proofs
set_option linter.unusedVariables false
set_option maxRecDepth 100000 in
theorem C_retracelaw22_ProcChecks (p0 : T_api_Code) (p1 : T_api_Proc) (r : Bool) (h : F_retracelaw22_ProcChecks p0 p1 = some r) : FnOK Tryz.prog 3 [.agg (T_api_Code.pvs p0), .agg (T_api_Proc.pvs p1)] [] (bo r) [] [] := by
  rw [F_retracelaw22_ProcChecks] at h
  refine FnOK.intro Tryz.func3 rfl (by kernel_rfl) (by kernel_rfl) fun E gv R hR => ?_
  refine At.seq ?_
  refine At.rg [2, 3] [0, 1] [] (by kernel_rfl) all0 (norm ?_)
  refine At.seq ?_
  refine At.seqJ (S := Bool) (fun s => ⟨[(2, .ptr 0 0), (3, .ptr 1 0), (13, bo s)], [.blk 26 (T_api_Code.pvs p0), .blk 30 (T_api_Proc.pvs p1)]⟩) (fun s => F_retracelaw22_ProcChecks_J1 p0 p1 s = some r) ?_ ?_
  · obtain ⟨y45, hy45, h⟩ := bind_some h
    rcases tf y45 with b46 | b46
    · replace h := cond_t b46 h
      refine At.rg [2, 3, 13] [0, 1] [(2, { pc := some { ρ := [], n0 := 0, res := bo y45, σ' := [], e := [] } }), (3, { orc := .val (.bool true) })] (by kernel_rfl) (allc (C_retracelaw22_large p0 p1 y45 hy45) (allc (congrArg D.bool b46) all0)) (edq (l := []) (ks := [2, 3, 13]) (ρ := [0, 1]) (st' := ⟨[(2, .ptr 0 0), (3, .ptr 1 0), (13, bo true)], [.blk 26 (T_api_Code.pvs p0), .blk 30 (T_api_Proc.pvs p1)]⟩) (by kernel_rfl) (fun a w hs => ⟨true, h, hs⟩))
    · replace h := cond_f b46 h
      obtain ⟨y47, hy47, h⟩ := bind_some h
      refine At.rg [2, 3, 13] [0, 1] [(2, { pc := some { ρ := [], n0 := 0, res := bo y45, σ' := [], e := [] } }), (3, { orc := .val (.bool false) }), (5, { pc := some { ρ := [], n0 := 0, res := bo y47, σ' := [], e := [] } })] (by kernel_rfl) (allc (C_retracelaw22_large p0 p1 y45 hy45) (allc (congrArg D.bool b46) (allc (C_retraceref20_Right p0 y47 hy47) all0))) (edq (l := []) (ks := [2, 3, 13]) (ρ := [0, 1]) (st' := ⟨[(2, .ptr 0 0), (3, .ptr 1 0), (13, bo (!y47))], [.blk 26 (T_api_Code.pvs p0), .blk 30 (T_api_Proc.pvs p1)]⟩) (by kernel_rfl) (fun a w hs => ⟨(!y47), h, hs⟩))
  · intro x14 h
    replace h : F_retracelaw22_ProcChecks_J1 p0 p1 x14 = some r := h
    rw [F_retracelaw22_ProcChecks_J1] at h
    refine At.cond x14 (by kernel_rfl) (fun b15 => ?_) (fun b15 => ?_)
    · replace h := cond_t b15 h
      refine At.seq ?_
      obtain ⟨y17, hy17, h⟩ := bind_some h
      refine At.rg [4] [] [(0, { pc := some { ρ := [], n0 := 0, res := bo y17, σ' := [], e := [] } })] (by kernel_rfl) (allc (C_retracelaw22_live y17 hy17) all0) (norm ?_)
      obtain rfl := some_eq h
      exact At.ret fun a w hs => ret_ok hR (ρ := []) (gs := []) (by kernel_rfl) all0 (by kernel_rfl) rfl rfl a w hs _ (.inl rfl)
    · replace h := cond_f b15 h
      refine At.nr [2, 3] [0, 1] (by kernel_rfl) ?_
      refine At.skip (norm ?_)
      refine At.seq ?_
      obtain ⟨y19, hy19, h⟩ := bind_some h
      refine At.rg [2, 3, 5] [0, 1] [(2, { pc := some { ρ := [], n0 := 0, res := i64 y19, σ' := [], e := [] } })] (by kernel_rfl) (allc (C_proc_Check p0 p1 y19 hy19) all0) (norm ?_)
      refine At.seqJ (S := Bool) (fun s => ⟨[(4, bo s)], []⟩) (fun s => F_retracelaw22_ProcChecks_J2 s = some r) ?_ ?_
      · obtain ⟨y33, hy33, h⟩ := bind_some h
        rcases tf ((y19 == 0) == y33) with b34 | b34
        · replace h := cond_t b34 h
          rcases tf (y19 == 0) with b35 | b35
          · replace h := cond_t b35 h
            obtain ⟨y36, hy36, h⟩ := bind_some h
            obtain ⟨y37, hy37, h⟩ := bind_some h
            rcases tf (y36 == y37) with b38 | b38
            · replace h := cond_t b38 h
              obtain ⟨y39, hy39, h⟩ := bind_some h
              refine At.dg mixedOrd 0 [4] [] [(2, { T := [0], r := 2 }), (3, { T := [1], r := 2 }), (4, { tip := { pc := some { ρ := [], n0 := 0, res := bo y33, σ' := [], e := [] } }, r := 2 }), (6, { tip := { orc := .val (.bool true) } }), (9, { tip := { orc := .val (.bool true) } }), (15, { T := [0], r := 2 }), (16, { tip := { pc := some { ρ := [], n0 := 0, res := i64 y36, σ' := [], e := [] } }, r := 2 }), (17, { T := [0], r := 2 }), (18, { tip := { pc := some { ρ := [], n0 := 0, res := i64 y37, σ' := [], e := [] } }, r := 2 }), (21, { tip := { orc := .val (.bool true) } }), (22, { tip := { pc := some { ρ := [], n0 := 0, res := bo y39, σ' := [], e := [] } }, r := 2 })] (by kernel_rfl) (allc (C_retraceref22_Is p0 p1 y33 hy33) (allc (congrArg D.bool b34) (allc (congrArg D.bool b35) (allc (C_proc_Chans p0 y36 hy36) (allc (C_retraceref22_Chans p0 y37 hy37) (allc (congrArg D.bool b38) (allc (C_retracelaw22_live y39 hy39) all0))))))) (edq (l := []) (ks := [4]) (ρ := []) (st' := ⟨[(4, bo y39)], []⟩) (by kernel_rfl) (fun a w hs => ⟨y39, h, hs⟩))
            · replace h := cond_f b38 h
              refine At.dg mixedOrd 0 [4] [] [(2, { T := [0], r := 2 }), (3, { T := [1], r := 2 }), (4, { tip := { pc := some { ρ := [], n0 := 0, res := bo y33, σ' := [], e := [] } }, r := 2 }), (6, { tip := { orc := .val (.bool true) } }), (9, { tip := { orc := .val (.bool true) } }), (15, { T := [0], r := 2 }), (16, { tip := { pc := some { ρ := [], n0 := 0, res := i64 y36, σ' := [], e := [] } }, r := 2 }), (17, { T := [0], r := 2 }), (18, { tip := { pc := some { ρ := [], n0 := 0, res := i64 y37, σ' := [], e := [] } }, r := 2 }), (21, { tip := { orc := .val (.bool false) } }), (22, { r := 2 })] (by kernel_rfl) (allc (C_retraceref22_Is p0 p1 y33 hy33) (allc (congrArg D.bool b34) (allc (congrArg D.bool b35) (allc (C_proc_Chans p0 y36 hy36) (allc (C_retraceref22_Chans p0 y37 hy37) (allc (congrArg D.bool b38) all0)))))) (edq (l := []) (ks := [4]) (ρ := []) (st' := ⟨[(4, bo false)], []⟩) (by kernel_rfl) (fun a w hs => ⟨false, h, hs⟩))
          · replace h := cond_f b35 h
            rcases tf (y19 == 9) with b40 | b40
            · replace h := cond_t b40 h
              obtain ⟨y41, hy41, h⟩ := bind_some h
              obtain ⟨y42, hy42, h⟩ := bind_some h
              rcases tf (y41 == y42) with b43 | b43
              · replace h := cond_t b43 h
                obtain ⟨y44, hy44, h⟩ := bind_some h
                refine At.dg mixedOrd 0 [4] [] [(2, { T := [0], r := 2 }), (3, { T := [1], r := 2 }), (4, { tip := { pc := some { ρ := [], n0 := 0, res := bo y33, σ' := [], e := [] } }, r := 2 }), (6, { tip := { orc := .val (.bool true) } }), (9, { tip := { orc := .val (.bool false) } }), (14, { tip := { orc := .val (.bool true) } }), (15, { T := [0], r := 2 }), (16, { tip := { pc := some { ρ := [], n0 := 0, res := i64 y41, σ' := [], e := [] } }, r := 2 }), (17, { T := [0], r := 2 }), (18, { tip := { pc := some { ρ := [], n0 := 0, res := i64 y42, σ' := [], e := [] } }, r := 2 }), (21, { tip := { orc := .val (.bool true) } }), (22, { tip := { pc := some { ρ := [], n0 := 0, res := bo y44, σ' := [], e := [] } }, r := 2 })] (by kernel_rfl) (allc (C_retraceref22_Is p0 p1 y33 hy33) (allc (congrArg D.bool b34) (allc (congrArg D.bool b35) (allc (congrArg D.bool b40) (allc (C_proc_Chans p0 y41 hy41) (allc (C_retraceref22_Chans p0 y42 hy42) (allc (congrArg D.bool b43) (allc (C_retracelaw22_live y44 hy44) all0)))))))) (edq (l := []) (ks := [4]) (ρ := []) (st' := ⟨[(4, bo y44)], []⟩) (by kernel_rfl) (fun a w hs => ⟨y44, h, hs⟩))
              · replace h := cond_f b43 h
                refine At.dg mixedOrd 0 [4] [] [(2, { T := [0], r := 2 }), (3, { T := [1], r := 2 }), (4, { tip := { pc := some { ρ := [], n0 := 0, res := bo y33, σ' := [], e := [] } }, r := 2 }), (6, { tip := { orc := .val (.bool true) } }), (9, { tip := { orc := .val (.bool false) } }), (14, { tip := { orc := .val (.bool true) } }), (15, { T := [0], r := 2 }), (16, { tip := { pc := some { ρ := [], n0 := 0, res := i64 y41, σ' := [], e := [] } }, r := 2 }), (17, { T := [0], r := 2 }), (18, { tip := { pc := some { ρ := [], n0 := 0, res := i64 y42, σ' := [], e := [] } }, r := 2 }), (21, { tip := { orc := .val (.bool false) } }), (22, { r := 2 })] (by kernel_rfl) (allc (C_retraceref22_Is p0 p1 y33 hy33) (allc (congrArg D.bool b34) (allc (congrArg D.bool b35) (allc (congrArg D.bool b40) (allc (C_proc_Chans p0 y41 hy41) (allc (C_retraceref22_Chans p0 y42 hy42) (allc (congrArg D.bool b43) all0))))))) (edq (l := []) (ks := [4]) (ρ := []) (st' := ⟨[(4, bo false)], []⟩) (by kernel_rfl) (fun a w hs => ⟨false, h, hs⟩))
            · replace h := cond_f b40 h
              refine At.dg mixedOrd 0 [4] [] [(2, { T := [0], r := 2 }), (3, { T := [1], r := 2 }), (4, { tip := { pc := some { ρ := [], n0 := 0, res := bo y33, σ' := [], e := [] } }, r := 2 }), (6, { tip := { orc := .val (.bool true) } }), (9, { tip := { orc := .val (.bool false) } }), (14, { tip := { orc := .val (.bool false) } }), (15, { T := [0], r := 2 }), (16, { r := 2 }), (17, { T := [0], r := 2 }), (18, { r := 2 }), (22, { r := 2 })] (by kernel_rfl) (allc (C_retraceref22_Is p0 p1 y33 hy33) (allc (congrArg D.bool b34) (allc (congrArg D.bool b35) (allc (congrArg D.bool b40) all0)))) (edq (l := []) (ks := [4]) (ρ := []) (st' := ⟨[(4, bo false)], []⟩) (by kernel_rfl) (fun a w hs => ⟨false, h, hs⟩))
        · replace h := cond_f b34 h
          refine At.dg mixedOrd 0 [4] [] [(2, { T := [0], r := 2 }), (3, { T := [1], r := 2 }), (4, { tip := { pc := some { ρ := [], n0 := 0, res := bo y33, σ' := [], e := [] } }, r := 2 }), (6, { tip := { orc := .val (.bool false) } }), (15, { T := [0], r := 2 }), (16, { r := 2 }), (17, { T := [0], r := 2 }), (18, { r := 2 }), (22, { r := 2 })] (by kernel_rfl) (allc (C_retraceref22_Is p0 p1 y33 hy33) (allc (congrArg D.bool b34) all0)) (edq (l := []) (ks := [4]) (ρ := []) (st' := ⟨[(4, bo false)], []⟩) (by kernel_rfl) (fun a w hs => ⟨false, h, hs⟩))
      · intro x32 h
        replace h : F_retracelaw22_ProcChecks_J2 x32 = some r := h
        rw [F_retracelaw22_ProcChecks_J2] at h
        obtain rfl := some_eq h
        exact At.ret fun a w hs => ret_ok hR (ρ := []) (gs := []) (by kernel_rfl) all0 (by kernel_rfl) rfl rfl a w hs _ (.inl rfl)
set_option maxRecDepth 100000 in
theorem C_retraceref22_Goes (p0 : T_api_Code) (p1 : T_api_Proc) (p2 : Int) (r : T_api_Proc) (h : F_retraceref22_Goes p0 p1 p2 = some r) : FnOK Tryz.prog 20 [.agg (T_api_Code.pvs p0), .agg (T_api_Proc.pvs p1), i64 p2] [] (.agg (T_api_Proc.pvs r)) [] [] := by
  rw [F_retraceref22_Goes] at h
  refine FnOK.intro Tryz.func20 rfl (by kernel_rfl) (by kernel_rfl) fun E gv R hR => ?_
  refine At.seq ?_
  refine At.rg [2, 3, 4, 6] [0, 1, 2] [] (by kernel_rfl) all0 (norm ?_)
  refine At.seq ?_
  obtain ⟨g2, h⟩ := grd_some h
  refine At.dg mixedOrd 2 [2, 3, 6, 7] [0, 2, 4, 3] [(0, { r := 3 }), (1, { T := [1], r := 3 }), (2, { r := 3 }), (3, { r := 4 }), (4, { T := [1], r := 4 }), (5, { tip := { form := some ((([] : List Int) ++ p1.Vars).length, encL (eInt .i64) (([] : List Int) ++ p1.Vars)) }, T := [3], r := 4 }), (6, { r := 4 }), (7, { T := [1], r := 4 }), (8, { r := 4 }), (9, { r := 4 }), (10, { T := [4], r := 5 })] (by kernel_rfl) (allc (len_app ([] : List Int) p1.Vars) (allc (encL_app (eInt .i64) ([] : List Int) p1.Vars) (allc (app_ok (he_int .i64) (by decide) g2) (allc (encL_len (he_int .i64) p1.Vars) all0)))) (norm ?_)
  refine At.seq ?_
  obtain ⟨y4, hy4, h⟩ := bind_some h
  refine At.rg [2, 3, 6, 7] [0, 1, 2, 3] [(2, { pc := some { ρ := [], n0 := 0, res := i64 y4, σ' := [], e := [] } })] (by kernel_rfl) (allc (C_retraceref20_Settle p0 p2 y4 hy4) all0) (norm ?_)
  refine At.seq ?_
  refine At.seqJ (S := Bool) (fun s => ⟨[(2, i64 y4), (6, .ptr 0 0), (7, .ptr 1 0), (37, bo s)], [.blk 30 [i64 0, i64 0, .d (.list true 0 []), i64 0, i64 0, i64 0, i64 0, i64 0, i64 0, i64 0, .d (.list true 0 [])], .blk 30 [i64 p1.Def, i64 0, .row 2 ((([] : List Int) ++ p1.Vars)).length, i64 p1.Fuel, i64 0, i64 0, i64 0, i64 0, i64 0, i64 0, .d (.list true 0 [])], .row 3 1 (encL (eInt .i64) (([] : List Int) ++ p1.Vars))]⟩) (fun s => F_retraceref22_Goes_J1 p1 y4 s = some r) ?_ ?_
  · rcases tf (decide (0 ≤ y4)) with b18 | b18
    · replace h := cond_t b18 h
      rcases tf (decide (y4 < ((p0.Ins).length : Int))) with b19 | b19
      · replace h := cond_t b19 h
        obtain ⟨y20, hy20, h⟩ := bind_some h
        refine At.rg [2, 6, 7, 37] [1, 2, 3] [(2, { orc := .val (.bool true) }), (9, { orc := .val (.bool true) }), (13, { orc := .cells (T_api_Ins.enc y20) })] (by kernel_rfl) (allc (congrArg D.bool b18) (allc (congrArg D.bool b19) (allc (elemAt_of T_api_Ins.enc_len hy20) all0))) (edq (l := []) (ks := [2, 6, 7, 37]) (ρ := [0, 1, 2]) (st' := ⟨[(2, i64 y4), (6, .ptr 0 0), (7, .ptr 1 0), (37, bo (y20.Op == 24))], [.blk 30 [i64 0, i64 0, .d (.list true 0 []), i64 0, i64 0, i64 0, i64 0, i64 0, i64 0, i64 0, .d (.list true 0 [])], .blk 30 [i64 p1.Def, i64 0, .row 2 ((([] : List Int) ++ p1.Vars)).length, i64 p1.Fuel, i64 0, i64 0, i64 0, i64 0, i64 0, i64 0, .d (.list true 0 [])], .row 3 1 (encL (eInt .i64) (([] : List Int) ++ p1.Vars))]⟩) (by kernel_rfl) (fun a w hs => ⟨(y20.Op == 24), h, hs⟩))
      · replace h := cond_f b19 h
        refine At.rg [2, 6, 7, 37] [1, 2, 3] [(2, { orc := .val (.bool true) }), (9, { orc := .val (.bool false) })] (by kernel_rfl) (allc (congrArg D.bool b18) (allc (congrArg D.bool b19) all0)) (edq (l := []) (ks := [2, 6, 7, 37]) (ρ := [0, 1, 2]) (st' := ⟨[(2, i64 y4), (6, .ptr 0 0), (7, .ptr 1 0), (37, bo false)], [.blk 30 [i64 0, i64 0, .d (.list true 0 []), i64 0, i64 0, i64 0, i64 0, i64 0, i64 0, i64 0, .d (.list true 0 [])], .blk 30 [i64 p1.Def, i64 0, .row 2 ((([] : List Int) ++ p1.Vars)).length, i64 p1.Fuel, i64 0, i64 0, i64 0, i64 0, i64 0, i64 0, .d (.list true 0 [])], .row 3 1 (encL (eInt .i64) (([] : List Int) ++ p1.Vars))]⟩) (by kernel_rfl) (fun a w hs => ⟨false, h, hs⟩))
    · replace h := cond_f b18 h
      refine At.rg [2, 6, 7, 37] [1, 2, 3] [(2, { orc := .val (.bool false) })] (by kernel_rfl) (allc (congrArg D.bool b18) all0) (edq (l := []) (ks := [2, 6, 7, 37]) (ρ := [0, 1, 2]) (st' := ⟨[(2, i64 y4), (6, .ptr 0 0), (7, .ptr 1 0), (37, bo false)], [.blk 30 [i64 0, i64 0, .d (.list true 0 []), i64 0, i64 0, i64 0, i64 0, i64 0, i64 0, i64 0, .d (.list true 0 [])], .blk 30 [i64 p1.Def, i64 0, .row 2 ((([] : List Int) ++ p1.Vars)).length, i64 p1.Fuel, i64 0, i64 0, i64 0, i64 0, i64 0, i64 0, .d (.list true 0 [])], .row 3 1 (encL (eInt .i64) (([] : List Int) ++ p1.Vars))]⟩) (by kernel_rfl) (fun a w hs => ⟨false, h, hs⟩))
  · intro x16 h
    replace h : F_retraceref22_Goes_J1 p1 y4 x16 = some r := h
    rw [F_retraceref22_Goes_J1] at h
    refine At.cond x16 (by kernel_rfl) (fun b17 => ?_) (fun b17 => ?_)
    · replace h := cond_t b17 h
      refine At.seq ?_
      refine At.rg [6, 7] [0, 1, 2] [] (by kernel_rfl) all0 (norm ?_)
      refine At.seq ?_
      refine At.rg [6] [0, 2] [] (by kernel_rfl) all0 (norm ?_)
      refine At.en [.settle 1, .loO 0] [6] [0] (by kernel_rfl) ?_
      obtain rfl := some_eq h
      exact At.ret fun a w hs => ret_ok hR (ρ := []) (gs := []) (by kernel_rfl) all0 (by kernel_rfl) rfl rfl a w hs _ (.inl rfl)
    · replace h := cond_f b17 h
      refine At.nr [2, 6, 7] [0, 1, 2] (by kernel_rfl) ?_
      refine At.skip (norm ?_)
      refine At.seq ?_
      refine At.rg [6, 7] [0, 1, 2] [] (by kernel_rfl) all0 (norm ?_)
      refine At.seq ?_
      refine At.rg [6] [0, 2] [] (by kernel_rfl) all0 (norm ?_)
      refine At.en [.settle 1, .loO 0] [6] [0] (by kernel_rfl) ?_
      obtain rfl := some_eq h
      exact At.ret fun a w hs => ret_ok hR (ρ := []) (gs := []) (by kernel_rfl) all0 (by kernel_rfl) rfl rfl a w hs _ (.inl rfl)
set_option maxRecDepth 100000 in
theorem C_retraceref22_New (p0 : T_api_Code) (p1 : Int) (p2 : (List Int)) (p3 : Int) (r : T_retraceref22_Got) (h : F_retraceref22_New p0 p1 p2 p3 = some r) : FnOK Tryz.prog 15 [.agg (T_api_Code.pvs p0), i64 p1, lv (eInt .i64) p2, i64 p3] [] (.agg (T_retraceref22_Got.pvs r)) [] [] := by
  rw [F_retraceref22_New] at h
  refine FnOK.intro Tryz.func15 rfl (by kernel_rfl) (by kernel_rfl) fun E gv R hR => ?_
  refine At.seq ?_
  refine At.rg [1, 2, 3, 4, 8] [0, 1] [] (by kernel_rfl) all0 (norm ?_)
  refine At.seq ?_
  refine At.seqJ (S := Bool) (fun s => ⟨[(1, i64 p1), (2, lv (eInt .i64) p2), (3, i64 p3), (4, .ptr 0 0), (8, .ptr 1 0), (32, bo s)], [.blk 26 (T_api_Code.pvs p0), .blk 40 [i64 0, i64 0, .d (.list true 0 []), i64 0, i64 0, i64 0, i64 0, i64 0, i64 0, i64 0, .d (.list true 0 []), i64 0]]⟩) (fun s => F_retraceref22_New_J1 p0 p1 p2 p3 s = some r) ?_ ?_
  · obtain ⟨y56, hy56, h⟩ := bind_some h
    rcases tf (!y56) with b57 | b57
    · replace h := cond_t b57 h
      refine At.rg [1, 2, 3, 4, 8, 32] [0, 1] [(4, { pc := some { ρ := [], n0 := 0, res := bo y56, σ' := [], e := [] } }), (6, { orc := .val (.bool true) })] (by kernel_rfl) (allc (C_retraceref22_from p1 ((p0.Defs).length : Int) y56 hy56) (allc (congrArg D.bool b57) all0)) (edq (l := []) (ks := [1, 2, 3, 4, 8, 32]) (ρ := [0, 1]) (st' := ⟨[(1, i64 p1), (2, lv (eInt .i64) p2), (3, i64 p3), (4, .ptr 0 0), (8, .ptr 1 0), (32, bo true)], [.blk 26 (T_api_Code.pvs p0), .blk 40 [i64 0, i64 0, .d (.list true 0 []), i64 0, i64 0, i64 0, i64 0, i64 0, i64 0, i64 0, .d (.list true 0 []), i64 0]]⟩) (by kernel_rfl) (fun a w hs => ⟨true, h, hs⟩))
    · replace h := cond_f b57 h
      obtain ⟨y58, hy58, h⟩ := bind_some h
      rcases tf (((p2).length : Int) != y58.Params) with b59 | b59
      · replace h := cond_t b59 h
        refine At.rg [1, 2, 3, 4, 8, 32] [0, 1] [(4, { pc := some { ρ := [], n0 := 0, res := bo y56, σ' := [], e := [] } }), (6, { orc := .val (.bool false) }), (12, { orc := .cells (T_api_Def.enc y58) }), (17, { orc := .val (.bool true) })] (by kernel_rfl) (allc (C_retraceref22_from p1 ((p0.Defs).length : Int) y56 hy56) (allc (congrArg D.bool b57) (allc (elemAt_of T_api_Def.enc_len hy58) (allc (congrArg D.bool b59) all0)))) (edq (l := []) (ks := [1, 2, 3, 4, 8, 32]) (ρ := [0, 1]) (st' := ⟨[(1, i64 p1), (2, lv (eInt .i64) p2), (3, i64 p3), (4, .ptr 0 0), (8, .ptr 1 0), (32, bo true)], [.blk 26 (T_api_Code.pvs p0), .blk 40 [i64 0, i64 0, .d (.list true 0 []), i64 0, i64 0, i64 0, i64 0, i64 0, i64 0, i64 0, .d (.list true 0 []), i64 0]]⟩) (by kernel_rfl) (fun a w hs => ⟨true, h, hs⟩))
      · replace h := cond_f b59 h
        obtain ⟨y60, hy60, h⟩ := bind_some h
        refine At.rg [1, 2, 3, 4, 8, 32] [0, 1] [(4, { pc := some { ρ := [], n0 := 0, res := bo y56, σ' := [], e := [] } }), (6, { orc := .val (.bool false) }), (12, { orc := .cells (T_api_Def.enc y58) }), (17, { orc := .val (.bool false) }), (19, { pc := some { ρ := [], n0 := 0, res := bo y60, σ' := [], e := [] } })] (by kernel_rfl) (allc (C_retraceref22_from p1 ((p0.Defs).length : Int) y56 hy56) (allc (congrArg D.bool b57) (allc (elemAt_of T_api_Def.enc_len hy58) (allc (congrArg D.bool b59) (allc (C_retraceref22_from p3 1048577 y60 hy60) all0))))) (edq (l := []) (ks := [1, 2, 3, 4, 8, 32]) (ρ := [0, 1]) (st' := ⟨[(1, i64 p1), (2, lv (eInt .i64) p2), (3, i64 p3), (4, .ptr 0 0), (8, .ptr 1 0), (32, bo (!y60))], [.blk 26 (T_api_Code.pvs p0), .blk 40 [i64 0, i64 0, .d (.list true 0 []), i64 0, i64 0, i64 0, i64 0, i64 0, i64 0, i64 0, .d (.list true 0 []), i64 0]]⟩) (by kernel_rfl) (fun a w hs => ⟨(!y60), h, hs⟩))
  · intro x18 h
    replace h : F_retraceref22_New_J1 p0 p1 p2 p3 x18 = some r := h
    rw [F_retraceref22_New_J1] at h
    refine At.cond x18 (by kernel_rfl) (fun b19 => ?_) (fun b19 => ?_)
    · replace h := cond_t b19 h
      refine At.seq ?_
      refine At.rg [8] [1] [] (by kernel_rfl) all0 (norm ?_)
      refine At.en [.loO 0] [8] [0] (by kernel_rfl) ?_
      obtain rfl := some_eq h
      exact At.ret fun a w hs => ret_ok hR (ρ := []) (gs := []) (by kernel_rfl) all0 (by kernel_rfl) rfl rfl a w hs _ (.inl rfl)
    · replace h := cond_f b19 h
      refine At.nr [1, 2, 3, 4, 8] [0, 1] (by kernel_rfl) ?_
      refine At.skip (norm ?_)
      refine At.seq ?_
      obtain ⟨g21, h⟩ := grd_some h
      refine At.rg [1, 2, 3, 4, 8, 9] [0, 1, 2] [(2, { form := some ((([] : List Int) ++ p2).length, encL (eInt .i64) (([] : List Int) ++ p2)) })] (by kernel_rfl) (allc (len_app ([] : List Int) p2) (allc (encL_app (eInt .i64) ([] : List Int) p2) (allc (app_ok (he_int .i64) (by decide) g21) (allc (encL_len (he_int .i64) p2) all0)))) (norm ?_)
      refine At.seq ?_
      refine At.seq ?_
      refine At.rg [1, 3, 4, 8, 9, 10] [0, 1, 2] [] (by kernel_rfl) all0 (norm ?_)
      refine At.block ?_
      refine At.nar [1, 3, 4, 8, 9, 10] [0, 1, 2] (st' := ⟨[(1, i64 p1), (3, i64 p3), (4, .ptr 0 0), (8, .ptr 1 0), (9, .row 2 ((([] : List Int) ++ p2)).length), (10, i64 ((p2).length : Int))], [.blk 26 (T_api_Code.pvs p0), .blk 40 [i64 0, i64 0, .d (.list true 0 []), i64 0, i64 0, i64 0, i64 0, i64 0, i64 0, i64 0, .d (.list true 0 []), i64 0], .row 3 1 (encL (eInt .i64) (([] : List Int) ++ p2))]⟩) (by kernel_rfl) ?_
      refine At.loop (fun s : (Int × (List Int)) => F_retraceref22_New_L2 p0 p1 p3 s.1 s.2) (fun s : (Int × (List Int)) => ⟨[(1, i64 p1), (3, i64 p3), (4, .ptr 0 0), (8, .ptr 1 0), (9, .row 2 (s.2).length), (10, i64 s.1)], [.blk 26 (T_api_Code.pvs p0), .blk 40 [i64 0, i64 0, .d (.list true 0 []), i64 0, i64 0, i64 0, i64 0, i64 0, i64 0, i64 0, .d (.list true 0 []), i64 0], .row 3 1 (encL (eInt .i64) s.2)]⟩) r (((p2).length : Int), (([] : List Int) ++ p2)) h ?_
      rintro ⟨x36, x37⟩ oo38 h f39
      replace h : F_retraceref22_New_L2 p0 p1 p3 x36 x37 = some oo38 := h
      rw [F_retraceref22_New_L2] at h
      refine At.seq ?_
      refine At.seq ?_
      obtain ⟨y44, hy44, h⟩ := bind_some h
      refine At.rg [1, 3, 4, 8, 9, 10, 46] [0, 1, 2] [(4, { orc := .cells (T_api_Def.enc y44) })] (by kernel_rfl) (allc (elemAt_of T_api_Def.enc_len hy44) all0) (norm ?_)
      refine At.cond (decide (x36 < y44.Vars)) (by kernel_rfl) (fun b45 => ?_) (fun b45 => ?_)
      · replace h := cond_t b45 h
        refine At.nr [1, 3, 4, 8, 9, 10] [0, 1, 2] (by kernel_rfl) ?_
        refine At.skip (norm ?_)
        refine At.seq ?_
        refine At.block ?_
        obtain ⟨g47, h⟩ := grd_some h
        refine At.rg [1, 3, 4, 8, 9, 10] [0, 1, 2] [(2, { form := some ((x37 ++ [0]).length, encL (eInt .i64) (x37 ++ [0])) })] (by kernel_rfl) (allc (len_app x37 ([0])) (allc (encL_app (eInt .i64) x37 ([0])) (allc (app_ok (he_int .i64) (by decide) g47) (allc (encL_len (he_int .i64) ([0])) all0)))) (norm ?_)
        refine At.rg [1, 3, 4, 8, 9, 10] [0, 1, 2] [] (by kernel_rfl) all0 (edq (l := []) (ks := [1, 3, 4, 8, 9, 10]) (ρ := [0, 1, 2]) (st' := ⟨[(1, i64 p1), (3, i64 p3), (4, .ptr 0 0), (8, .ptr 1 0), (9, .row 2 ((x37 ++ [0])).length), (10, i64 (w64 (x36 + 1)))], [.blk 26 (T_api_Code.pvs p0), .blk 40 [i64 0, i64 0, .d (.list true 0 []), i64 0, i64 0, i64 0, i64 0, i64 0, i64 0, i64 0, .d (.list true 0 []), i64 0], .row 3 1 (encL (eInt .i64) (x37 ++ [0]))]⟩) (by kernel_rfl) (fun a w hs => ⟨_, (some_eq h).symm, hs⟩))
      · replace h := cond_f b45 h
        refine At.nr [1, 3, 4, 8, 9] [0, 1, 2] (by kernel_rfl) ?_
        obtain ⟨r48, h, e49⟩ := map_inr h
        rw [f39 _ e49] at h
        refine At.exit (norm ?_)
        refine At.seq ?_
        refine At.settle [2] (st' := ⟨[(1, i64 p1), (3, i64 p3), (4, .ptr 0 0), (8, .ptr 1 0), (9, lv (eInt .i64) x37)], [.blk 26 (T_api_Code.pvs p0), .blk 40 [i64 0, i64 0, .d (.list true 0 []), i64 0, i64 0, i64 0, i64 0, i64 0, i64 0, i64 0, .d (.list true 0 []), i64 0], .dead]⟩) (by kernel_rfl) ?_
        obtain ⟨y54, hy54, h⟩ := bind_some h
        obtain ⟨y55, hy55, h⟩ := bind_some h
        refine At.dg mixedOrd 0 [8] [1] [(0, { T := [0], r := 3 }), (5, { r := 3 }), (6, { T := [0], r := 3 }), (8, { tip := { orc := .cells (T_api_Def.enc y54) } }), (11, { tip := { pc := some { ρ := [], n0 := 0, res := .agg (T_api_Proc.pvs y55), σ' := [], e := [] } }, r := 3 }), (13, { T := [1], r := 3 })] (by kernel_rfl) (allc (elemAt_of T_api_Def.enc_len hy54) (allc (C_retraceref22_Goes p0 (⟨p1, 0, x37, p3, 0, 0, 0, 0, 0, 0, ([] : (List T_api_Alt))⟩ : T_api_Proc) y54.Entry y55 hy55) all0)) (norm ?_)
        obtain rfl := some_eq h
        exact At.ret fun a w hs => ret_ok hR (ρ := []) (gs := []) (by kernel_rfl) all0 (by kernel_rfl) rfl rfl a w hs _ (.inl rfl)
set_option maxRecDepth 100000 in
theorem C_retraceref03_Same (p0 : (List Int)) (p1 : (List Int)) (r : Bool) (h : F_retraceref03_Same p0 p1 = some r) : FnOK Tryz.prog 35 [lv (eInt .i64) p0, lv (eInt .i64) p1] [] (bo r) [] [] := by
  rw [F_retraceref03_Same] at h
  refine FnOK.intro Tryz.func35 rfl (by kernel_rfl) (by kernel_rfl) fun E gv R hR => ?_
  refine At.seq ?_
  refine At.rg [0, 1] [] [] (by kernel_rfl) all0 (norm ?_)
  refine At.seq ?_
  refine At.seq ?_
  refine At.rg [0, 1, 10] [] [] (by kernel_rfl) all0 (norm ?_)
  refine At.cond (((p0).length : Int) != ((p1).length : Int)) (by kernel_rfl) (fun b2 => ?_) (fun b2 => ?_)
  · replace h := cond_t b2 h
    refine At.seq ?_
    refine At.rg [4] [] [] (by kernel_rfl) all0 (norm ?_)
    obtain rfl := some_eq h
    exact At.ret fun a w hs => ret_ok hR (ρ := []) (gs := []) (by kernel_rfl) all0 (by kernel_rfl) rfl rfl a w hs _ (.inl rfl)
  · replace h := cond_f b2 h
    refine At.nr [0, 1] [] (by kernel_rfl) ?_
    refine At.skip (norm ?_)
    refine At.seq ?_
    refine At.seq ?_
    refine At.rg [0, 1, 5] [] [] (by kernel_rfl) all0 (norm ?_)
    refine At.block ?_
    refine At.nar [0, 1, 5] [] (st' := ⟨[(0, lv (eInt .i64) p0), (1, lv (eInt .i64) p1), (5, i64 0)], []⟩) (by kernel_rfl) ?_
    refine At.loop (fun s : (Int) => F_retraceref03_Same_L1 p0 p1 s) (fun s : (Int) => ⟨[(0, lv (eInt .i64) p0), (1, lv (eInt .i64) p1), (5, i64 s)], []⟩) r 0 h ?_
    intro x22 oo23 h f24
    replace h : F_retraceref03_Same_L1 p0 p1 x22 = some oo23 := h
    rw [F_retraceref03_Same_L1] at h
    refine At.seq ?_
    refine At.seq ?_
    refine At.rg [0, 1, 5, 14] [] [] (by kernel_rfl) all0 (norm ?_)
    refine At.cond (decide (x22 < ((p0).length : Int))) (by kernel_rfl) (fun b26 => ?_) (fun b26 => ?_)
    · replace h := cond_t b26 h
      refine At.nr [0, 1, 5] [] (by kernel_rfl) ?_
      refine At.skip (norm ?_)
      refine At.seq ?_
      refine At.block ?_
      refine At.seq ?_
      obtain ⟨y34, hy34, h⟩ := bind_some h
      obtain ⟨y35, hy35, h⟩ := bind_some h
      refine At.dg mixedOrd 0 [0, 1, 5, 25] [] [(2, { tip := { orc := .cells ((eInt .i64) y34) } }), (6, { tip := { orc := .cells ((eInt .i64) y35) } })] (by kernel_rfl) (allc (elemAt_of (he_int .i64) hy34) (allc (elemAt_of (he_int .i64) hy35) all0)) (norm ?_)
      refine At.cond (y34 != y35) (by kernel_rfl) (fun b36 => ?_) (fun b36 => ?_)
      · replace h := cond_t b36 h
        refine At.seq ?_
        refine At.rg [4] [] [] (by kernel_rfl) all0 (norm ?_)
        obtain ⟨r37, h, e38⟩ := map_inr h
        rw [f24 _ e38] at h
        obtain rfl := some_eq h
        exact At.ret fun a w hs => ret_ok hR (ρ := []) (gs := []) (by kernel_rfl) all0 (by kernel_rfl) rfl rfl a w hs _ (.inl rfl)
      · replace h := cond_f b36 h
        refine At.nr [0, 1, 5] [] (by kernel_rfl) ?_
        refine At.skip (norm ?_)
        refine At.rg [0, 1, 5] [] [] (by kernel_rfl) all0 (edq (l := []) (ks := [0, 1, 5]) (ρ := []) (st' := ⟨[(0, lv (eInt .i64) p0), (1, lv (eInt .i64) p1), (5, i64 (w64 (x22 + 1)))], []⟩) (by kernel_rfl) (fun a w hs => ⟨_, (some_eq h).symm, hs⟩))
    · replace h := cond_f b26 h
      refine At.nr [] [] (by kernel_rfl) ?_
      obtain ⟨r39, h, e40⟩ := map_inr h
      rw [f24 _ e40] at h
      refine At.exit (norm ?_)
      refine At.seq ?_
      refine At.rg [4] [] [] (by kernel_rfl) all0 (norm ?_)
      obtain rfl := some_eq h
      exact At.ret fun a w hs => ret_ok hR (ρ := []) (gs := []) (by kernel_rfl) all0 (by kernel_rfl) rfl rfl a w hs _ (.inl rfl)
set_option maxRecDepth 100000 in
theorem C_retraceref22_Alts (p0 : (List T_api_Alt)) (p1 : (List T_api_Alt)) (r : Bool) (h : F_retraceref22_Alts p0 p1 = some r) : FnOK Tryz.prog 36 [lv T_api_Alt.enc p0, lv T_api_Alt.enc p1] [] (bo r) [] [] := by
  rw [F_retraceref22_Alts] at h
  refine FnOK.intro Tryz.func36 rfl (by kernel_rfl) (by kernel_rfl) fun E gv R hR => ?_
  refine At.seq ?_
  refine At.rg [0, 1] [] [] (by kernel_rfl) all0 (norm ?_)
  refine At.seq ?_
  refine At.seq ?_
  refine At.rg [0, 1, 10] [] [] (by kernel_rfl) all0 (norm ?_)
  refine At.cond (((p0).length : Int) != ((p1).length : Int)) (by kernel_rfl) (fun b2 => ?_) (fun b2 => ?_)
  · replace h := cond_t b2 h
    refine At.seq ?_
    refine At.rg [4] [] [] (by kernel_rfl) all0 (norm ?_)
    obtain rfl := some_eq h
    exact At.ret fun a w hs => ret_ok hR (ρ := []) (gs := []) (by kernel_rfl) all0 (by kernel_rfl) rfl rfl a w hs _ (.inl rfl)
  · replace h := cond_f b2 h
    refine At.nr [0, 1] [] (by kernel_rfl) ?_
    refine At.skip (norm ?_)
    refine At.seq ?_
    refine At.seq ?_
    refine At.rg [0, 1, 5] [] [] (by kernel_rfl) all0 (norm ?_)
    refine At.block ?_
    refine At.nar [0, 1, 5] [] (st' := ⟨[(0, lv T_api_Alt.enc p0), (1, lv T_api_Alt.enc p1), (5, i64 0)], []⟩) (by kernel_rfl) ?_
    refine At.loop (fun s : (Int) => F_retraceref22_Alts_L1 p0 p1 s) (fun s : (Int) => ⟨[(0, lv T_api_Alt.enc p0), (1, lv T_api_Alt.enc p1), (5, i64 s)], []⟩) r 0 h ?_
    intro x22 oo23 h f24
    replace h : F_retraceref22_Alts_L1 p0 p1 x22 = some oo23 := h
    rw [F_retraceref22_Alts_L1] at h
    refine At.seq ?_
    refine At.seq ?_
    refine At.rg [0, 1, 5, 14] [] [] (by kernel_rfl) all0 (norm ?_)
    refine At.cond (decide (x22 < ((p0).length : Int))) (by kernel_rfl) (fun b26 => ?_) (fun b26 => ?_)
    · replace h := cond_t b26 h
      refine At.nr [0, 1, 5] [] (by kernel_rfl) ?_
      refine At.skip (norm ?_)
      refine At.seq ?_
      refine At.block ?_
      refine At.seq ?_
      obtain ⟨y34, hy34, h⟩ := bind_some h
      obtain ⟨y35, hy35, h⟩ := bind_some h
      refine At.dg mixedOrd 0 [0, 1, 5, 25] [] [(2, { tip := { orc := .cells (T_api_Alt.enc y34) } }), (6, { tip := { orc := .cells (T_api_Alt.enc y35) } })] (by kernel_rfl) (allc (elemAt_of T_api_Alt.enc_len hy34) (allc (elemAt_of T_api_Alt.enc_len hy35) all0)) (norm ?_)
      refine At.cond (!((y34.Kind == y35.Kind) && ((y34.Chan == y35.Chan) && ((y34.Val == y35.Val) && ((y34.Slot == y35.Slot) && ((y34.Goto == y35.Goto) && true)))))) (by kernel_rfl) (fun b36 => ?_) (fun b36 => ?_)
      · replace h := cond_t b36 h
        refine At.seq ?_
        refine At.rg [4] [] [] (by kernel_rfl) all0 (norm ?_)
        obtain ⟨r37, h, e38⟩ := map_inr h
        rw [f24 _ e38] at h
        obtain rfl := some_eq h
        exact At.ret fun a w hs => ret_ok hR (ρ := []) (gs := []) (by kernel_rfl) all0 (by kernel_rfl) rfl rfl a w hs _ (.inl rfl)
      · replace h := cond_f b36 h
        refine At.nr [0, 1, 5] [] (by kernel_rfl) ?_
        refine At.skip (norm ?_)
        refine At.rg [0, 1, 5] [] [] (by kernel_rfl) all0 (edq (l := []) (ks := [0, 1, 5]) (ρ := []) (st' := ⟨[(0, lv T_api_Alt.enc p0), (1, lv T_api_Alt.enc p1), (5, i64 (w64 (x22 + 1)))], []⟩) (by kernel_rfl) (fun a w hs => ⟨_, (some_eq h).symm, hs⟩))
    · replace h := cond_f b26 h
      refine At.nr [] [] (by kernel_rfl) ?_
      obtain ⟨r39, h, e40⟩ := map_inr h
      rw [f24 _ e40] at h
      refine At.exit (norm ?_)
      refine At.seq ?_
      refine At.rg [4] [] [] (by kernel_rfl) all0 (norm ?_)
      obtain rfl := some_eq h
      exact At.ret fun a w hs => ret_ok hR (ρ := []) (gs := []) (by kernel_rfl) all0 (by kernel_rfl) rfl rfl a w hs _ (.inl rfl)
set_option maxRecDepth 100000 in
theorem C_retraceref22_Same (p0 : T_api_Proc) (p1 : T_api_Proc) (r : Bool) (h : F_retraceref22_Same p0 p1 = some r) : FnOK Tryz.prog 17 [.agg (T_api_Proc.pvs p0), .agg (T_api_Proc.pvs p1)] [] (bo r) [] [] := by
  rw [F_retraceref22_Same] at h
  refine FnOK.intro Tryz.func17 rfl (by kernel_rfl) (by kernel_rfl) fun E gv R hR => ?_
  refine At.seq ?_
  refine At.rg [2, 3] [0, 1] [] (by kernel_rfl) all0 (norm ?_)
  refine At.seq ?_
  refine At.seqJ (S := Bool) (fun s => ⟨[(2, .ptr 0 0), (3, .ptr 1 0), (44, bo s)], [.blk 30 (T_api_Proc.pvs p0), .blk 30 (T_api_Proc.pvs p1)]⟩) (fun s => F_retraceref22_Same_J1 p0 p1 s = some r) ?_ ?_
  · rcases tf (p0.Def != p1.Def) with b33 | b33
    · replace h := cond_t b33 h
      refine At.rg [2, 3, 44] [0, 1] [(5, { orc := .val (.bool true) })] (by kernel_rfl) (allc (congrArg D.bool b33) all0) (edq (l := []) (ks := [2, 3, 44]) (ρ := [0, 1]) (st' := ⟨[(2, .ptr 0 0), (3, .ptr 1 0), (44, bo true)], [.blk 30 (T_api_Proc.pvs p0), .blk 30 (T_api_Proc.pvs p1)]⟩) (by kernel_rfl) (fun a w hs => ⟨true, h, hs⟩))
    · replace h := cond_f b33 h
      rcases tf (p0.At != p1.At) with b34 | b34
      · replace h := cond_t b34 h
        refine At.rg [2, 3, 44] [0, 1] [(5, { orc := .val (.bool false) }), (12, { orc := .val (.bool true) })] (by kernel_rfl) (allc (congrArg D.bool b33) (allc (congrArg D.bool b34) all0)) (edq (l := []) (ks := [2, 3, 44]) (ρ := [0, 1]) (st' := ⟨[(2, .ptr 0 0), (3, .ptr 1 0), (44, bo true)], [.blk 30 (T_api_Proc.pvs p0), .blk 30 (T_api_Proc.pvs p1)]⟩) (by kernel_rfl) (fun a w hs => ⟨true, h, hs⟩))
      · replace h := cond_f b34 h
        rcases tf (p0.Fuel != p1.Fuel) with b35 | b35
        · replace h := cond_t b35 h
          refine At.rg [2, 3, 44] [0, 1] [(5, { orc := .val (.bool false) }), (12, { orc := .val (.bool false) }), (19, { orc := .val (.bool true) })] (by kernel_rfl) (allc (congrArg D.bool b33) (allc (congrArg D.bool b34) (allc (congrArg D.bool b35) all0))) (edq (l := []) (ks := [2, 3, 44]) (ρ := [0, 1]) (st' := ⟨[(2, .ptr 0 0), (3, .ptr 1 0), (44, bo true)], [.blk 30 (T_api_Proc.pvs p0), .blk 30 (T_api_Proc.pvs p1)]⟩) (by kernel_rfl) (fun a w hs => ⟨true, h, hs⟩))
        · replace h := cond_f b35 h
          rcases tf (p0.Mode != p1.Mode) with b36 | b36
          · replace h := cond_t b36 h
            refine At.rg [2, 3, 44] [0, 1] [(5, { orc := .val (.bool false) }), (12, { orc := .val (.bool false) }), (19, { orc := .val (.bool false) }), (26, { orc := .val (.bool true) })] (by kernel_rfl) (allc (congrArg D.bool b33) (allc (congrArg D.bool b34) (allc (congrArg D.bool b35) (allc (congrArg D.bool b36) all0)))) (edq (l := []) (ks := [2, 3, 44]) (ρ := [0, 1]) (st' := ⟨[(2, .ptr 0 0), (3, .ptr 1 0), (44, bo true)], [.blk 30 (T_api_Proc.pvs p0), .blk 30 (T_api_Proc.pvs p1)]⟩) (by kernel_rfl) (fun a w hs => ⟨true, h, hs⟩))
          · replace h := cond_f b36 h
            rcases tf (p0.Chan != p1.Chan) with b37 | b37
            · replace h := cond_t b37 h
              refine At.rg [2, 3, 44] [0, 1] [(5, { orc := .val (.bool false) }), (12, { orc := .val (.bool false) }), (19, { orc := .val (.bool false) }), (26, { orc := .val (.bool false) }), (33, { orc := .val (.bool true) })] (by kernel_rfl) (allc (congrArg D.bool b33) (allc (congrArg D.bool b34) (allc (congrArg D.bool b35) (allc (congrArg D.bool b36) (allc (congrArg D.bool b37) all0))))) (edq (l := []) (ks := [2, 3, 44]) (ρ := [0, 1]) (st' := ⟨[(2, .ptr 0 0), (3, .ptr 1 0), (44, bo true)], [.blk 30 (T_api_Proc.pvs p0), .blk 30 (T_api_Proc.pvs p1)]⟩) (by kernel_rfl) (fun a w hs => ⟨true, h, hs⟩))
            · replace h := cond_f b37 h
              refine At.rg [2, 3, 44] [0, 1] [(5, { orc := .val (.bool false) }), (12, { orc := .val (.bool false) }), (19, { orc := .val (.bool false) }), (26, { orc := .val (.bool false) }), (33, { orc := .val (.bool false) })] (by kernel_rfl) (allc (congrArg D.bool b33) (allc (congrArg D.bool b34) (allc (congrArg D.bool b35) (allc (congrArg D.bool b36) (allc (congrArg D.bool b37) all0))))) (edq (l := []) (ks := [2, 3, 44]) (ρ := [0, 1]) (st' := ⟨[(2, .ptr 0 0), (3, .ptr 1 0), (44, bo (p0.Val != p1.Val))], [.blk 30 (T_api_Proc.pvs p0), .blk 30 (T_api_Proc.pvs p1)]⟩) (by kernel_rfl) (fun a w hs => ⟨(p0.Val != p1.Val), h, hs⟩))
  · intro x18 h
    replace h : F_retraceref22_Same_J1 p0 p1 x18 = some r := h
    rw [F_retraceref22_Same_J1] at h
    refine At.cond x18 (by kernel_rfl) (fun b19 => ?_) (fun b19 => ?_)
    · replace h := cond_t b19 h
      refine At.seq ?_
      refine At.rg [4] [] [] (by kernel_rfl) all0 (norm ?_)
      obtain rfl := some_eq h
      exact At.ret fun a w hs => ret_ok hR (ρ := []) (gs := []) (by kernel_rfl) all0 (by kernel_rfl) rfl rfl a w hs _ (.inl rfl)
    · replace h := cond_f b19 h
      refine At.nr [2, 3] [0, 1] (by kernel_rfl) ?_
      refine At.skip (norm ?_)
      refine At.seqJ (S := Bool) (fun s => ⟨[(4, bo s)], []⟩) (fun s => F_retraceref22_Same_J2 s = some r) ?_ ?_
      · rcases tf (p0.Slot == p1.Slot) with b27 | b27
        · replace h := cond_t b27 h
          rcases tf (p0.Until == p1.Until) with b28 | b28
          · replace h := cond_t b28 h
            rcases tf (p0.Since == p1.Since) with b29 | b29
            · replace h := cond_t b29 h
              obtain ⟨y30, hy30, h⟩ := bind_some h
              rcases tf y30 with b31 | b31
              · replace h := cond_t b31 h
                obtain ⟨y32, hy32, h⟩ := bind_some h
                refine At.rg [4] [] [(5, { orc := .val (.bool true) }), (12, { orc := .val (.bool true) }), (19, { orc := .val (.bool true) }), (24, { pc := some { ρ := [], n0 := 0, res := bo y30, σ' := [], e := [] } }), (26, { orc := .val (.bool true) }), (31, { pc := some { ρ := [], n0 := 0, res := bo y32, σ' := [], e := [] } })] (by kernel_rfl) (allc (congrArg D.bool b27) (allc (congrArg D.bool b28) (allc (congrArg D.bool b29) (allc (C_retraceref03_Same p0.Vars p1.Vars y30 hy30) (allc (congrArg D.bool b31) (allc (C_retraceref22_Alts p0.Alts p1.Alts y32 hy32) all0)))))) (edq (l := []) (ks := [4]) (ρ := []) (st' := ⟨[(4, bo y32)], []⟩) (by kernel_rfl) (fun a w hs => ⟨y32, h, hs⟩))
              · replace h := cond_f b31 h
                refine At.rg [4] [] [(5, { orc := .val (.bool true) }), (12, { orc := .val (.bool true) }), (19, { orc := .val (.bool true) }), (24, { pc := some { ρ := [], n0 := 0, res := bo y30, σ' := [], e := [] } }), (26, { orc := .val (.bool false) })] (by kernel_rfl) (allc (congrArg D.bool b27) (allc (congrArg D.bool b28) (allc (congrArg D.bool b29) (allc (C_retraceref03_Same p0.Vars p1.Vars y30 hy30) (allc (congrArg D.bool b31) all0))))) (edq (l := []) (ks := [4]) (ρ := []) (st' := ⟨[(4, bo false)], []⟩) (by kernel_rfl) (fun a w hs => ⟨false, h, hs⟩))
            · replace h := cond_f b29 h
              refine At.rg [4] [] [(5, { orc := .val (.bool true) }), (12, { orc := .val (.bool true) }), (19, { orc := .val (.bool false) })] (by kernel_rfl) (allc (congrArg D.bool b27) (allc (congrArg D.bool b28) (allc (congrArg D.bool b29) all0))) (edq (l := []) (ks := [4]) (ρ := []) (st' := ⟨[(4, bo false)], []⟩) (by kernel_rfl) (fun a w hs => ⟨false, h, hs⟩))
          · replace h := cond_f b28 h
            refine At.rg [4] [] [(5, { orc := .val (.bool true) }), (12, { orc := .val (.bool false) })] (by kernel_rfl) (allc (congrArg D.bool b27) (allc (congrArg D.bool b28) all0)) (edq (l := []) (ks := [4]) (ρ := []) (st' := ⟨[(4, bo false)], []⟩) (by kernel_rfl) (fun a w hs => ⟨false, h, hs⟩))
        · replace h := cond_f b27 h
          refine At.rg [4] [] [(5, { orc := .val (.bool false) })] (by kernel_rfl) (allc (congrArg D.bool b27) all0) (edq (l := []) (ks := [4]) (ρ := []) (st' := ⟨[(4, bo false)], []⟩) (by kernel_rfl) (fun a w hs => ⟨false, h, hs⟩))
      · intro x26 h
        replace h : F_retraceref22_Same_J2 x26 = some r := h
        rw [F_retraceref22_Same_J2] at h
        obtain rfl := some_eq h
        exact At.ret fun a w hs => ret_ok hR (ρ := []) (gs := []) (by kernel_rfl) all0 (by kernel_rfl) rfl rfl a w hs _ (.inl rfl)
set_option maxRecDepth 100000 in
theorem C_retracelaw22_ProcNews (p0 : T_api_Code) (p1 : Int) (p2 : (List Int)) (p3 : Int) (r : Bool) (h : F_retracelaw22_ProcNews p0 p1 p2 p3 = some r) : FnOK Tryz.prog 4 [.agg (T_api_Code.pvs p0), i64 p1, lv (eInt .i64) p2, i64 p3] [] (bo r) [] [] := by
  rw [F_retracelaw22_ProcNews] at h
  refine FnOK.intro Tryz.func4 rfl (by kernel_rfl) (by kernel_rfl) fun E gv R hR => ?_
  refine At.seq ?_
  refine At.rg [1, 2, 3, 4] [0] [] (by kernel_rfl) all0 (norm ?_)
  refine At.seq ?_
  refine At.seqJ (S := Bool) (fun s => ⟨[(1, i64 p1), (2, lv (eInt .i64) p2), (3, i64 p3), (4, .ptr 0 0), (20, bo s)], [.blk 26 (T_api_Code.pvs p0)]⟩) (fun s => F_retracelaw22_ProcNews_J1 p0 p1 p2 p3 s = some r) ?_ ?_
  · obtain ⟨y43, hy43, h⟩ := bind_some h
    rcases tf y43 with b44 | b44
    · replace h := cond_t b44 h
      refine At.rg [1, 2, 3, 4, 20] [0] [(3, { pc := some { ρ := [], n0 := 0, res := bo y43, σ' := [], e := [] } }), (4, { orc := .val (.bool true) })] (by kernel_rfl) (allc (C_retracelaw22_large p0 (⟨0, 0, p2, 0, 0, 0, 0, 0, 0, 0, ([] : (List T_api_Alt))⟩ : T_api_Proc) y43 hy43) (allc (congrArg D.bool b44) all0)) (edq (l := []) (ks := [1, 2, 3, 4, 20]) (ρ := [0]) (st' := ⟨[(1, i64 p1), (2, lv (eInt .i64) p2), (3, i64 p3), (4, .ptr 0 0), (20, bo true)], [.blk 26 (T_api_Code.pvs p0)]⟩) (by kernel_rfl) (fun a w hs => ⟨true, h, hs⟩))
    · replace h := cond_f b44 h
      obtain ⟨y45, hy45, h⟩ := bind_some h
      refine At.rg [1, 2, 3, 4, 20] [0] [(3, { pc := some { ρ := [], n0 := 0, res := bo y43, σ' := [], e := [] } }), (4, { orc := .val (.bool false) }), (6, { pc := some { ρ := [], n0 := 0, res := bo y45, σ' := [], e := [] } })] (by kernel_rfl) (allc (C_retracelaw22_large p0 (⟨0, 0, p2, 0, 0, 0, 0, 0, 0, 0, ([] : (List T_api_Alt))⟩ : T_api_Proc) y43 hy43) (allc (congrArg D.bool b44) (allc (C_retraceref20_Right p0 y45 hy45) all0))) (edq (l := []) (ks := [1, 2, 3, 4, 20]) (ρ := [0]) (st' := ⟨[(1, i64 p1), (2, lv (eInt .i64) p2), (3, i64 p3), (4, .ptr 0 0), (20, bo (!y45))], [.blk 26 (T_api_Code.pvs p0)]⟩) (by kernel_rfl) (fun a w hs => ⟨(!y45), h, hs⟩))
  · intro x14 h
    replace h : F_retracelaw22_ProcNews_J1 p0 p1 p2 p3 x14 = some r := h
    rw [F_retracelaw22_ProcNews_J1] at h
    refine At.cond x14 (by kernel_rfl) (fun b15 => ?_) (fun b15 => ?_)
    · replace h := cond_t b15 h
      refine At.seq ?_
      obtain ⟨y17, hy17, h⟩ := bind_some h
      refine At.rg [8] [] [(0, { pc := some { ρ := [], n0 := 0, res := bo y17, σ' := [], e := [] } })] (by kernel_rfl) (allc (C_retracelaw22_live y17 hy17) all0) (norm ?_)
      obtain rfl := some_eq h
      exact At.ret fun a w hs => ret_ok hR (ρ := []) (gs := []) (by kernel_rfl) all0 (by kernel_rfl) rfl rfl a w hs _ (.inl rfl)
    · replace h := cond_f b15 h
      refine At.nr [1, 2, 3, 4] [0] (by kernel_rfl) ?_
      refine At.skip (norm ?_)
      refine At.seq ?_
      obtain ⟨y19, hy19, h⟩ := bind_some h
      refine At.rg [1, 2, 3, 4, 9, 10] [0, 1] [(4, { pc := some { ρ := [], n0 := 0, res := .tup [.agg (T_api_Proc.pvs y19.1), i64 y19.2], σ' := [], e := [] } })] (by kernel_rfl) (allc (C_proc_New p0 p1 p2 p3 y19 hy19) all0) (norm ?_)
      refine At.seq ?_
      obtain ⟨y21, hy21, h⟩ := bind_some h
      refine At.rg [4, 9, 10, 11] [0, 1, 2] [(4, { pc := some { ρ := [], n0 := 0, res := .agg (T_retraceref22_Got.pvs y21), σ' := [], e := [] } })] (by kernel_rfl) (allc (C_retraceref22_New p0 p1 p2 p3 y21 hy21) all0) (norm ?_)
      refine At.seqJ (S := Bool) (fun s => ⟨[(8, bo s)], []⟩) (fun s => F_retracelaw22_ProcNews_J2 s = some r) ?_ ?_
      · obtain ⟨y33, hy33, h⟩ := bind_some h
        rcases tf y33 with b34 | b34
        · replace h := cond_t b34 h
          obtain ⟨y35, hy35, h⟩ := bind_some h
          rcases tf y35 with b36 | b36
          · replace h := cond_t b36 h
            rcases tf (y19.2 == y21.E) with b37 | b37
            · replace h := cond_t b37 h
              rcases tf (y19.2 != 0) with b38 | b38
              · replace h := cond_t b38 h
                obtain ⟨y39, hy39, h⟩ := bind_some h
                refine At.rg [8] [] [(3, { pc := some { ρ := [], n0 := 0, res := bo y33, σ' := [], e := [] } }), (4, { orc := .val (.bool true) }), (8, { pc := some { ρ := [], n0 := 0, res := bo y35, σ' := [], e := [] } }), (10, { orc := .val (.bool true) }), (16, { orc := .val (.bool true) }), (19, { orc := .val (.bool true) }), (27, { pc := some { ρ := [], n0 := 0, res := bo y39, σ' := [], e := [] } })] (by kernel_rfl) (allc (C_proc_Same y19.1 y21.P y33 hy33) (allc (congrArg D.bool b34) (allc (C_retraceref22_Same y19.1 y21.P y35 hy35) (allc (congrArg D.bool b36) (allc (congrArg D.bool b37) (allc (congrArg D.bool b38) (allc (C_retracelaw22_live y39 hy39) all0))))))) (edq (l := []) (ks := [8]) (ρ := []) (st' := ⟨[(8, bo y39)], []⟩) (by kernel_rfl) (fun a w hs => ⟨y39, h, hs⟩))
              · replace h := cond_f b38 h
                obtain ⟨y40, hy40, h⟩ := bind_some h
                rcases tf (y40 == 0) with b41 | b41
                · replace h := cond_t b41 h
                  obtain ⟨y42, hy42, h⟩ := bind_some h
                  refine At.rg [8] [] [(3, { pc := some { ρ := [], n0 := 0, res := bo y33, σ' := [], e := [] } }), (4, { orc := .val (.bool true) }), (8, { pc := some { ρ := [], n0 := 0, res := bo y35, σ' := [], e := [] } }), (10, { orc := .val (.bool true) }), (16, { orc := .val (.bool true) }), (19, { orc := .val (.bool false) }), (22, { pc := some { ρ := [], n0 := 0, res := i64 y40, σ' := [], e := [] } }), (26, { orc := .val (.bool true) }), (27, { pc := some { ρ := [], n0 := 0, res := bo y42, σ' := [], e := [] } })] (by kernel_rfl) (allc (C_proc_Same y19.1 y21.P y33 hy33) (allc (congrArg D.bool b34) (allc (C_retraceref22_Same y19.1 y21.P y35 hy35) (allc (congrArg D.bool b36) (allc (congrArg D.bool b37) (allc (congrArg D.bool b38) (allc (C_proc_Check p0 y19.1 y40 hy40) (allc (congrArg D.bool b41) (allc (C_retracelaw22_live y42 hy42) all0))))))))) (edq (l := []) (ks := [8]) (ρ := []) (st' := ⟨[(8, bo y42)], []⟩) (by kernel_rfl) (fun a w hs => ⟨y42, h, hs⟩))
                · replace h := cond_f b41 h
                  refine At.rg [8] [] [(3, { pc := some { ρ := [], n0 := 0, res := bo y33, σ' := [], e := [] } }), (4, { orc := .val (.bool true) }), (8, { pc := some { ρ := [], n0 := 0, res := bo y35, σ' := [], e := [] } }), (10, { orc := .val (.bool true) }), (16, { orc := .val (.bool true) }), (19, { orc := .val (.bool false) }), (22, { pc := some { ρ := [], n0 := 0, res := i64 y40, σ' := [], e := [] } }), (26, { orc := .val (.bool false) })] (by kernel_rfl) (allc (C_proc_Same y19.1 y21.P y33 hy33) (allc (congrArg D.bool b34) (allc (C_retraceref22_Same y19.1 y21.P y35 hy35) (allc (congrArg D.bool b36) (allc (congrArg D.bool b37) (allc (congrArg D.bool b38) (allc (C_proc_Check p0 y19.1 y40 hy40) (allc (congrArg D.bool b41) all0)))))))) (edq (l := []) (ks := [8]) (ρ := []) (st' := ⟨[(8, bo false)], []⟩) (by kernel_rfl) (fun a w hs => ⟨false, h, hs⟩))
            · replace h := cond_f b37 h
              refine At.rg [8] [] [(3, { pc := some { ρ := [], n0 := 0, res := bo y33, σ' := [], e := [] } }), (4, { orc := .val (.bool true) }), (8, { pc := some { ρ := [], n0 := 0, res := bo y35, σ' := [], e := [] } }), (10, { orc := .val (.bool true) }), (16, { orc := .val (.bool false) })] (by kernel_rfl) (allc (C_proc_Same y19.1 y21.P y33 hy33) (allc (congrArg D.bool b34) (allc (C_retraceref22_Same y19.1 y21.P y35 hy35) (allc (congrArg D.bool b36) (allc (congrArg D.bool b37) all0))))) (edq (l := []) (ks := [8]) (ρ := []) (st' := ⟨[(8, bo false)], []⟩) (by kernel_rfl) (fun a w hs => ⟨false, h, hs⟩))
          · replace h := cond_f b36 h
            refine At.rg [8] [] [(3, { pc := some { ρ := [], n0 := 0, res := bo y33, σ' := [], e := [] } }), (4, { orc := .val (.bool true) }), (8, { pc := some { ρ := [], n0 := 0, res := bo y35, σ' := [], e := [] } }), (10, { orc := .val (.bool false) })] (by kernel_rfl) (allc (C_proc_Same y19.1 y21.P y33 hy33) (allc (congrArg D.bool b34) (allc (C_retraceref22_Same y19.1 y21.P y35 hy35) (allc (congrArg D.bool b36) all0)))) (edq (l := []) (ks := [8]) (ρ := []) (st' := ⟨[(8, bo false)], []⟩) (by kernel_rfl) (fun a w hs => ⟨false, h, hs⟩))
        · replace h := cond_f b34 h
          refine At.rg [8] [] [(3, { pc := some { ρ := [], n0 := 0, res := bo y33, σ' := [], e := [] } }), (4, { orc := .val (.bool false) })] (by kernel_rfl) (allc (C_proc_Same y19.1 y21.P y33 hy33) (allc (congrArg D.bool b34) all0)) (edq (l := []) (ks := [8]) (ρ := []) (st' := ⟨[(8, bo false)], []⟩) (by kernel_rfl) (fun a w hs => ⟨false, h, hs⟩))
      · intro x32 h
        replace h : F_retracelaw22_ProcNews_J2 x32 = some r := h
        rw [F_retracelaw22_ProcNews_J2] at h
        obtain rfl := some_eq h
        exact At.ret fun a w hs => ret_ok hR (ρ := []) (gs := []) (by kernel_rfl) all0 (by kernel_rfl) rfl rfl a w hs _ (.inl rfl)
set_option maxRecDepth 100000 in
theorem C_retracelaw22_ProcSame (p0 : T_api_Proc) (p1 : T_api_Proc) (r : Bool) (h : F_retracelaw22_ProcSame p0 p1 = some r) : FnOK Tryz.prog 5 [.agg (T_api_Proc.pvs p0), .agg (T_api_Proc.pvs p1)] [] (bo r) [] [] := by
  rw [F_retracelaw22_ProcSame] at h
  refine FnOK.intro Tryz.func5 rfl (by kernel_rfl) (by kernel_rfl) fun E gv R hR => ?_
  refine At.seq ?_
  refine At.rg [2, 3] [0, 1] [] (by kernel_rfl) all0 (norm ?_)
  refine At.seq ?_
  refine At.seqJ (S := Bool) (fun s => ⟨[(2, .ptr 0 0), (3, .ptr 1 0), (26, bo s)], [.blk 30 (T_api_Proc.pvs p0), .blk 30 (T_api_Proc.pvs p1)]⟩) (fun s => F_retracelaw22_ProcSame_J1 p0 p1 s = some r) ?_ ?_
  · rcases tf (decide (40 < ((p0.Vars).length : Int))) with b31 | b31
    · replace h := cond_t b31 h
      refine At.rg [2, 3, 26] [0, 1] [(4, { orc := .val (.bool true) })] (by kernel_rfl) (allc (congrArg D.bool b31) all0) (edq (l := []) (ks := [2, 3, 26]) (ρ := [0, 1]) (st' := ⟨[(2, .ptr 0 0), (3, .ptr 1 0), (26, bo true)], [.blk 30 (T_api_Proc.pvs p0), .blk 30 (T_api_Proc.pvs p1)]⟩) (by kernel_rfl) (fun a w hs => ⟨true, h, hs⟩))
    · replace h := cond_f b31 h
      rcases tf (decide (40 < ((p1.Vars).length : Int))) with b32 | b32
      · replace h := cond_t b32 h
        refine At.rg [2, 3, 26] [0, 1] [(4, { orc := .val (.bool false) }), (10, { orc := .val (.bool true) })] (by kernel_rfl) (allc (congrArg D.bool b31) (allc (congrArg D.bool b32) all0)) (edq (l := []) (ks := [2, 3, 26]) (ρ := [0, 1]) (st' := ⟨[(2, .ptr 0 0), (3, .ptr 1 0), (26, bo true)], [.blk 30 (T_api_Proc.pvs p0), .blk 30 (T_api_Proc.pvs p1)]⟩) (by kernel_rfl) (fun a w hs => ⟨true, h, hs⟩))
      · replace h := cond_f b32 h
        rcases tf (decide (40 < ((p0.Alts).length : Int))) with b33 | b33
        · replace h := cond_t b33 h
          refine At.rg [2, 3, 26] [0, 1] [(4, { orc := .val (.bool false) }), (10, { orc := .val (.bool false) }), (16, { orc := .val (.bool true) })] (by kernel_rfl) (allc (congrArg D.bool b31) (allc (congrArg D.bool b32) (allc (congrArg D.bool b33) all0))) (edq (l := []) (ks := [2, 3, 26]) (ρ := [0, 1]) (st' := ⟨[(2, .ptr 0 0), (3, .ptr 1 0), (26, bo true)], [.blk 30 (T_api_Proc.pvs p0), .blk 30 (T_api_Proc.pvs p1)]⟩) (by kernel_rfl) (fun a w hs => ⟨true, h, hs⟩))
        · replace h := cond_f b33 h
          refine At.rg [2, 3, 26] [0, 1] [(4, { orc := .val (.bool false) }), (10, { orc := .val (.bool false) }), (16, { orc := .val (.bool false) })] (by kernel_rfl) (allc (congrArg D.bool b31) (allc (congrArg D.bool b32) (allc (congrArg D.bool b33) all0))) (edq (l := []) (ks := [2, 3, 26]) (ρ := [0, 1]) (st' := ⟨[(2, .ptr 0 0), (3, .ptr 1 0), (26, bo (decide (40 < ((p1.Alts).length : Int))))], [.blk 30 (T_api_Proc.pvs p0), .blk 30 (T_api_Proc.pvs p1)]⟩) (by kernel_rfl) (fun a w hs => ⟨(decide (40 < ((p1.Alts).length : Int))), h, hs⟩))
  · intro x14 h
    replace h : F_retracelaw22_ProcSame_J1 p0 p1 x14 = some r := h
    rw [F_retracelaw22_ProcSame_J1] at h
    refine At.cond x14 (by kernel_rfl) (fun b15 => ?_) (fun b15 => ?_)
    · replace h := cond_t b15 h
      refine At.seq ?_
      obtain ⟨y17, hy17, h⟩ := bind_some h
      refine At.rg [4] [] [(0, { pc := some { ρ := [], n0 := 0, res := bo y17, σ' := [], e := [] } })] (by kernel_rfl) (allc (C_retracelaw22_live y17 hy17) all0) (norm ?_)
      obtain rfl := some_eq h
      exact At.ret fun a w hs => ret_ok hR (ρ := []) (gs := []) (by kernel_rfl) all0 (by kernel_rfl) rfl rfl a w hs _ (.inl rfl)
    · replace h := cond_f b15 h
      refine At.nr [2, 3] [0, 1] (by kernel_rfl) ?_
      refine At.skip (norm ?_)
      refine At.seqJ (S := Bool) (fun s => ⟨[(4, bo s)], []⟩) (fun s => F_retracelaw22_ProcSame_J2 s = some r) ?_ ?_
      · obtain ⟨y25, hy25, h⟩ := bind_some h
        obtain ⟨y26, hy26, h⟩ := bind_some h
        rcases tf (y25 == y26) with b27 | b27
        · replace h := cond_t b27 h
          obtain ⟨y28, hy28, h⟩ := bind_some h
          rcases tf y28 with b29 | b29
          · replace h := cond_t b29 h
            obtain ⟨y30, hy30, h⟩ := bind_some h
            refine At.dg mixedOrd 0 [4] [] [(0, { T := [0], r := 2 }), (1, { T := [1], r := 2 }), (2, { tip := { pc := some { ρ := [], n0 := 0, res := bo y25, σ' := [], e := [] } }, r := 2 }), (3, { T := [0], r := 2 }), (4, { T := [1], r := 2 }), (5, { tip := { pc := some { ρ := [], n0 := 0, res := bo y26, σ' := [], e := [] } }, r := 2 }), (7, { tip := { orc := .val (.bool true) } }), (8, { T := [0], r := 2 }), (9, { T := [0], r := 2 }), (10, { tip := { pc := some { ρ := [], n0 := 0, res := bo y28, σ' := [], e := [] } }, r := 2 }), (12, { tip := { orc := .val (.bool true) } }), (13, { tip := { pc := some { ρ := [], n0 := 0, res := bo y30, σ' := [], e := [] } }, r := 2 })] (by kernel_rfl) (allc (C_proc_Same p0 p1 y25 hy25) (allc (C_retraceref22_Same p0 p1 y26 hy26) (allc (congrArg D.bool b27) (allc (C_proc_Same p0 p0 y28 hy28) (allc (congrArg D.bool b29) (allc (C_retracelaw22_live y30 hy30) all0)))))) (edq (l := []) (ks := [4]) (ρ := []) (st' := ⟨[(4, bo y30)], []⟩) (by kernel_rfl) (fun a w hs => ⟨y30, h, hs⟩))
          · replace h := cond_f b29 h
            refine At.dg mixedOrd 0 [4] [] [(0, { T := [0], r := 2 }), (1, { T := [1], r := 2 }), (2, { tip := { pc := some { ρ := [], n0 := 0, res := bo y25, σ' := [], e := [] } }, r := 2 }), (3, { T := [0], r := 2 }), (4, { T := [1], r := 2 }), (5, { tip := { pc := some { ρ := [], n0 := 0, res := bo y26, σ' := [], e := [] } }, r := 2 }), (7, { tip := { orc := .val (.bool true) } }), (8, { T := [0], r := 2 }), (9, { T := [0], r := 2 }), (10, { tip := { pc := some { ρ := [], n0 := 0, res := bo y28, σ' := [], e := [] } }, r := 2 }), (12, { tip := { orc := .val (.bool false) } }), (13, { r := 2 })] (by kernel_rfl) (allc (C_proc_Same p0 p1 y25 hy25) (allc (C_retraceref22_Same p0 p1 y26 hy26) (allc (congrArg D.bool b27) (allc (C_proc_Same p0 p0 y28 hy28) (allc (congrArg D.bool b29) all0))))) (edq (l := []) (ks := [4]) (ρ := []) (st' := ⟨[(4, bo false)], []⟩) (by kernel_rfl) (fun a w hs => ⟨false, h, hs⟩))
        · replace h := cond_f b27 h
          refine At.dg mixedOrd 0 [4] [] [(0, { T := [0], r := 2 }), (1, { T := [1], r := 2 }), (2, { tip := { pc := some { ρ := [], n0 := 0, res := bo y25, σ' := [], e := [] } }, r := 2 }), (3, { T := [0], r := 2 }), (4, { T := [1], r := 2 }), (5, { tip := { pc := some { ρ := [], n0 := 0, res := bo y26, σ' := [], e := [] } }, r := 2 }), (7, { tip := { orc := .val (.bool false) } }), (8, { T := [0], r := 2 }), (9, { T := [0], r := 2 }), (10, { r := 2 }), (13, { r := 2 })] (by kernel_rfl) (allc (C_proc_Same p0 p1 y25 hy25) (allc (C_retraceref22_Same p0 p1 y26 hy26) (allc (congrArg D.bool b27) all0))) (edq (l := []) (ks := [4]) (ρ := []) (st' := ⟨[(4, bo false)], []⟩) (by kernel_rfl) (fun a w hs => ⟨false, h, hs⟩))
      · intro x24 h
        replace h : F_retracelaw22_ProcSame_J2 x24 = some r := h
        rw [F_retracelaw22_ProcSame_J2] at h
        obtain rfl := some_eq h
        exact At.ret fun a w hs => ret_ok hR (ρ := []) (gs := []) (by kernel_rfl) all0 (by kernel_rfl) rfl rfl a w hs _ (.inl rfl)
set_option maxRecDepth 100000 in
theorem C_proc_Fails (p0 : T_api_Code) (p1 : T_api_Proc) (r : T_api_Proc) (h : F_proc_Fails p0 p1 = some r) : FnOK Tryz.prog 19 [.agg (T_api_Code.pvs p0), .agg (T_api_Proc.pvs p1)] [] (.agg (T_api_Proc.pvs r)) [] [] := by
  rw [F_proc_Fails] at h
  refine FnOK.intro Tryz.func19 rfl (by kernel_rfl) (by kernel_rfl) fun E gv R hR => ?_
  refine At.seq ?_
  refine At.rg [3, 4] [1, 2] [] (by kernel_rfl) all0 (norm ?_)
  refine At.seq ?_
  obtain ⟨y2, hy2, h⟩ := bind_some h
  refine At.dg mixedOrd 1 [4] [1, 2] [(0, { r := 2 }), (1, { T := [0], r := 2 }), (2, { r := 2 }), (3, { T := [0], r := 2 }), (4, { r := 2 }), (5, { T := [0], r := 2 }), (6, { tip := { pc := some { ρ := [2], n0 := 0, res := .row 0 (y2).length, σ' := [.row 3 1 (encL (eInt .i64) y2)], e := [] } }, r := 2 }), (7, { r := 3 }), (8, { T := [0], r := 3 }), (9, { r := 3 }), (10, { T := [1], r := 3 })] (by kernel_rfl) (allc (C_slices_Clone_int_int p1.Vars y2 hy2) all0) (norm ?_)
  refine At.en [.settle 1, .loO 0] [4] [0] (by kernel_rfl) ?_
  obtain rfl := some_eq h
  exact At.ret fun a w hs => ret_ok hR (ρ := []) (gs := []) (by kernel_rfl) all0 (by kernel_rfl) rfl rfl a w hs _ (.inl rfl)
set_option maxRecDepth 100000 in
theorem C_retraceref22_Fails (p0 : T_api_Proc) (r : T_api_Proc) (h : F_retraceref22_Fails p0 = some r) : FnOK Tryz.prog 21 [.agg (T_api_Proc.pvs p0)] [] (.agg (T_api_Proc.pvs r)) [] [] := by
  rw [F_retraceref22_Fails] at h
  refine FnOK.intro Tryz.func21 rfl (by kernel_rfl) (by kernel_rfl) fun E gv R hR => ?_
  refine At.seq ?_
  refine At.rg [1, 2] [0, 1] [] (by kernel_rfl) all0 (norm ?_)
  refine At.seq ?_
  obtain ⟨g2, h⟩ := grd_some h
  refine At.dg mixedOrd 1 [2] [1, 2] [(0, { r := 2 }), (1, { T := [0], r := 2 }), (2, { r := 2 }), (3, { T := [0], r := 2 }), (4, { r := 2 }), (5, { r := 3 }), (6, { T := [0], r := 3 }), (7, { tip := { form := some ((([] : List Int) ++ p0.Vars).length, encL (eInt .i64) (([] : List Int) ++ p0.Vars)) }, T := [2], r := 3 }), (8, { r := 3 }), (9, { T := [0], r := 3 }), (10, { r := 3 }), (11, { T := [1], r := 3 })] (by kernel_rfl) (allc (len_app ([] : List Int) p0.Vars) (allc (encL_app (eInt .i64) ([] : List Int) p0.Vars) (allc (app_ok (he_int .i64) (by decide) g2) (allc (encL_len (he_int .i64) p0.Vars) all0)))) (norm ?_)
  refine At.en [.settle 1, .loO 0] [2] [0] (by kernel_rfl) ?_
  obtain rfl := some_eq h
  exact At.ret fun a w hs => ret_ok hR (ρ := []) (gs := []) (by kernel_rfl) all0 (by kernel_rfl) rfl rfl a w hs _ (.inl rfl)
set_option maxRecDepth 100000 in
theorem C_retracelaw22_ProcGoes (p0 : T_api_Code) (p1 : T_api_Proc) (p2 : Int) (r : Bool) (h : F_retracelaw22_ProcGoes p0 p1 p2 = some r) : FnOK Tryz.prog 6 [.agg (T_api_Code.pvs p0), .agg (T_api_Proc.pvs p1), i64 p2] [] (bo r) [] [] := by
  rw [F_retracelaw22_ProcGoes] at h
  refine FnOK.intro Tryz.func6 rfl (by kernel_rfl) (by kernel_rfl) fun E gv R hR => ?_
  refine At.seq ?_
  refine At.rg [2, 3, 4] [0, 1] [] (by kernel_rfl) all0 (norm ?_)
  refine At.seq ?_
  refine At.seqJ (S := Bool) (fun s => ⟨[(2, i64 p2), (3, .ptr 0 0), (4, .ptr 1 0), (16, bo s)], [.blk 26 (T_api_Code.pvs p0), .blk 30 (T_api_Proc.pvs p1)]⟩) (fun s => F_retracelaw22_ProcGoes_J1 p0 p1 p2 s = some r) ?_ ?_
  · obtain ⟨y77, hy77, h⟩ := bind_some h
    rcases tf y77 with b78 | b78
    · replace h := cond_t b78 h
      refine At.rg [2, 3, 4, 16] [0, 1] [(2, { pc := some { ρ := [], n0 := 0, res := bo y77, σ' := [], e := [] } }), (3, { orc := .val (.bool true) })] (by kernel_rfl) (allc (C_retracelaw22_large p0 p1 y77 hy77) (allc (congrArg D.bool b78) all0)) (edq (l := []) (ks := [2, 3, 4, 16]) (ρ := [0, 1]) (st' := ⟨[(2, i64 p2), (3, .ptr 0 0), (4, .ptr 1 0), (16, bo true)], [.blk 26 (T_api_Code.pvs p0), .blk 30 (T_api_Proc.pvs p1)]⟩) (by kernel_rfl) (fun a w hs => ⟨true, h, hs⟩))
    · replace h := cond_f b78 h
      obtain ⟨y79, hy79, h⟩ := bind_some h
      refine At.rg [2, 3, 4, 16] [0, 1] [(2, { pc := some { ρ := [], n0 := 0, res := bo y77, σ' := [], e := [] } }), (3, { orc := .val (.bool false) }), (5, { pc := some { ρ := [], n0 := 0, res := bo y79, σ' := [], e := [] } })] (by kernel_rfl) (allc (C_retracelaw22_large p0 p1 y77 hy77) (allc (congrArg D.bool b78) (allc (C_retraceref20_Right p0 y79 hy79) all0))) (edq (l := []) (ks := [2, 3, 4, 16]) (ρ := [0, 1]) (st' := ⟨[(2, i64 p2), (3, .ptr 0 0), (4, .ptr 1 0), (16, bo (!y79))], [.blk 26 (T_api_Code.pvs p0), .blk 30 (T_api_Proc.pvs p1)]⟩) (by kernel_rfl) (fun a w hs => ⟨(!y79), h, hs⟩))
  · intro x14 h
    replace h : F_retracelaw22_ProcGoes_J1 p0 p1 p2 x14 = some r := h
    rw [F_retracelaw22_ProcGoes_J1] at h
    refine At.cond x14 (by kernel_rfl) (fun b15 => ?_) (fun b15 => ?_)
    · replace h := cond_t b15 h
      refine At.seq ?_
      obtain ⟨y17, hy17, h⟩ := bind_some h
      refine At.rg [6] [] [(0, { pc := some { ρ := [], n0 := 0, res := bo y17, σ' := [], e := [] } })] (by kernel_rfl) (allc (C_retracelaw22_live y17 hy17) all0) (norm ?_)
      obtain rfl := some_eq h
      exact At.ret fun a w hs => ret_ok hR (ρ := []) (gs := []) (by kernel_rfl) all0 (by kernel_rfl) rfl rfl a w hs _ (.inl rfl)
    · replace h := cond_f b15 h
      refine At.nr [2, 3, 4] [0, 1] (by kernel_rfl) ?_
      refine At.skip (norm ?_)
      refine At.seq ?_
      obtain ⟨y20, hy20, h⟩ := bind_some h
      obtain ⟨y21, hy21, h⟩ := bind_some h
      refine At.dg mixedOrd 2 [2, 3, 4, 7, 8] [0, 1, 2, 3] [(0, { T := [0], r := 2 }), (1, { T := [1], r := 2 }), (3, { tip := { pc := some { ρ := [], n0 := 0, res := .agg (T_api_Proc.pvs y20), σ' := [], e := [] } }, r := 2 }), (4, { T := [0], r := 2 }), (5, { T := [1], r := 2 }), (6, { tip := { pc := some { ρ := [], n0 := 0, res := .agg (T_api_Proc.pvs y21), σ' := [], e := [] } }, r := 2 }), (7, { r := 2 }), (8, { r := 3 }), (9, { T := [2], r := 4 }), (10, { T := [3], r := 4 })] (by kernel_rfl) (allc (C_proc_Goes p0 p1 p2 y20 hy20) (allc (C_proc_Fails p0 p1 y21 hy21) all0)) (norm ?_)
      refine At.seq ?_
      refine At.seqJ (S := Bool) (fun s => ⟨[(2, i64 p2), (3, .ptr 0 0), (4, .ptr 1 0), (7, .ptr 2 0), (38, bo s)], [.blk 26 (T_api_Code.pvs p0), .blk 30 (T_api_Proc.pvs p1), .blk 30 (T_api_Proc.pvs y20)]⟩) (fun s => F_retracelaw22_ProcGoes_J2 p0 p1 p2 y20 s = some r) ?_ ?_
      · obtain ⟨y72, hy72, h⟩ := bind_some h
        obtain ⟨y73, hy73, h⟩ := bind_some h
        rcases tf (!y73) with b74 | b74
        · replace h := cond_t b74 h
          refine At.dg mixedOrd 0 [2, 3, 4, 7, 38] [0, 1, 2] [(0, { T := [2], r := 4 }), (1, { T := [0], r := 4 }), (2, { T := [1], r := 4 }), (4, { tip := { pc := some { ρ := [], n0 := 0, res := .agg (T_api_Proc.pvs y72), σ' := [], e := [] } }, r := 4 }), (5, { tip := { pc := some { ρ := [], n0 := 0, res := bo y73, σ' := [], e := [] } }, r := 4 }), (7, { tip := { orc := .val (.bool true) } }), (8, { T := [3], r := 4 }), (9, { T := [1], r := 4 }), (10, { r := 4 }), (11, { r := 4 })] (by kernel_rfl) (allc (C_retraceref22_Goes p0 p1 p2 y72 hy72) (allc (C_retraceref22_Same y20 y72 y73 hy73) (allc (congrArg D.bool b74) all0))) (edq (l := []) (ks := [2, 3, 4, 7, 38]) (ρ := [0, 1, 2]) (st' := ⟨[(2, i64 p2), (3, .ptr 0 0), (4, .ptr 1 0), (7, .ptr 2 0), (38, bo true)], [.blk 26 (T_api_Code.pvs p0), .blk 30 (T_api_Proc.pvs p1), .blk 30 (T_api_Proc.pvs y20)]⟩) (by kernel_rfl) (fun a w hs => ⟨true, h, hs⟩))
        · replace h := cond_f b74 h
          obtain ⟨y75, hy75, h⟩ := bind_some h
          obtain ⟨y76, hy76, h⟩ := bind_some h
          refine At.dg mixedOrd 0 [2, 3, 4, 7, 38] [0, 1, 2] [(0, { T := [2], r := 4 }), (1, { T := [0], r := 4 }), (2, { T := [1], r := 4 }), (4, { tip := { pc := some { ρ := [], n0 := 0, res := .agg (T_api_Proc.pvs y72), σ' := [], e := [] } }, r := 4 }), (5, { tip := { pc := some { ρ := [], n0 := 0, res := bo y73, σ' := [], e := [] } }, r := 4 }), (7, { tip := { orc := .val (.bool false) } }), (8, { T := [3], r := 4 }), (9, { T := [1], r := 4 }), (10, { tip := { pc := some { ρ := [], n0 := 0, res := .agg (T_api_Proc.pvs y75), σ' := [], e := [] } }, r := 4 }), (11, { tip := { pc := some { ρ := [], n0 := 0, res := bo y76, σ' := [], e := [] } }, r := 4 })] (by kernel_rfl) (allc (C_retraceref22_Goes p0 p1 p2 y72 hy72) (allc (C_retraceref22_Same y20 y72 y73 hy73) (allc (congrArg D.bool b74) (allc (C_retraceref22_Fails p1 y75 hy75) (allc (C_retraceref22_Same y21 y75 y76 hy76) all0))))) (edq (l := []) (ks := [2, 3, 4, 7, 38]) (ρ := [0, 1, 2]) (st' := ⟨[(2, i64 p2), (3, .ptr 0 0), (4, .ptr 1 0), (7, .ptr 2 0), (38, bo (!y76))], [.blk 26 (T_api_Code.pvs p0), .blk 30 (T_api_Proc.pvs p1), .blk 30 (T_api_Proc.pvs y20)]⟩) (by kernel_rfl) (fun a w hs => ⟨(!y76), h, hs⟩))
      · intro x39 h
        replace h : F_retracelaw22_ProcGoes_J2 p0 p1 p2 y20 x39 = some r := h
        rw [F_retracelaw22_ProcGoes_J2] at h
        refine At.cond x39 (by kernel_rfl) (fun b40 => ?_) (fun b40 => ?_)
        · replace h := cond_t b40 h
          refine At.seq ?_
          refine At.rg [6] [] [] (by kernel_rfl) all0 (norm ?_)
          obtain rfl := some_eq h
          exact At.ret fun a w hs => ret_ok hR (ρ := []) (gs := []) (by kernel_rfl) all0 (by kernel_rfl) rfl rfl a w hs _ (.inl rfl)
        · replace h := cond_f b40 h
          refine At.nr [2, 3, 4, 7] [0, 1, 2] (by kernel_rfl) ?_
          refine At.skip (norm ?_)
          refine At.seq ?_
          refine At.seqJ (S := Bool) (fun s => ⟨[(3, .ptr 0 0), (7, .ptr 1 0), (52, bo s)], [.blk 26 (T_api_Code.pvs p0), .blk 30 (T_api_Proc.pvs y20)]⟩) (fun s => F_retracelaw22_ProcGoes_J3 p0 y20 s = some r) ?_ ?_
          · obtain ⟨y68, hy68, h⟩ := bind_some h
            rcases tf (!y68) with b69 | b69
            · replace h := cond_t b69 h
              refine At.dg mixedOrd 0 [3, 7, 52] [0, 2] [(0, { T := [0], r := 3 }), (1, { T := [1], r := 3 }), (2, { tip := { pc := some { ρ := [], n0 := 0, res := bo y68, σ' := [], e := [] } }, r := 3 }), (4, { tip := { orc := .val (.bool true) } }), (5, { T := [0], r := 3 }), (6, { r := 3 }), (8, { T := [0], r := 3 }), (10, { r := 3 }), (11, { r := 3 })] (by kernel_rfl) (allc (C_retraceref22_Is p0 p1 y68 hy68) (allc (congrArg D.bool b69) all0)) (edq (l := []) (ks := [3, 7, 52]) (ρ := [0, 1]) (st' := ⟨[(3, .ptr 0 0), (7, .ptr 1 0), (52, bo true)], [.blk 26 (T_api_Code.pvs p0), .blk 30 (T_api_Proc.pvs y20)]⟩) (by kernel_rfl) (fun a w hs => ⟨true, h, hs⟩))
            · replace h := cond_f b69 h
              obtain ⟨y70, hy70, h⟩ := bind_some h
              obtain ⟨y71, hy71, h⟩ := bind_some h
              refine At.dg mixedOrd 0 [3, 7, 52] [0, 2] [(0, { T := [0], r := 3 }), (1, { T := [1], r := 3 }), (2, { tip := { pc := some { ρ := [], n0 := 0, res := bo y68, σ' := [], e := [] } }, r := 3 }), (4, { tip := { orc := .val (.bool false) } }), (5, { T := [0], r := 3 }), (6, { r := 3 }), (7, { T := [1], r := 3 }), (8, { T := [0], r := 3 }), (10, { tip := { pc := some { ρ := [], n0 := 0, res := i64 y70, σ' := [], e := [] } }, r := 3 }), (11, { tip := { pc := some { ρ := [], n0 := 0, res := bo y71, σ' := [], e := [] } }, r := 3 })] (by kernel_rfl) (allc (C_retraceref22_Is p0 p1 y68 hy68) (allc (congrArg D.bool b69) (allc (C_retraceref20_Settle p0 p2 y70 hy70) (allc (C_retraceref22_Rests p0 p1.Def y70 y71 hy71) all0)))) (edq (l := []) (ks := [3, 7, 52]) (ρ := [0, 1]) (st' := ⟨[(3, .ptr 0 0), (7, .ptr 1 0), (52, bo (!y71))], [.blk 26 (T_api_Code.pvs p0), .blk 30 (T_api_Proc.pvs y20)]⟩) (by kernel_rfl) (fun a w hs => ⟨(!y71), h, hs⟩))
          · intro x57 h
            replace h : F_retracelaw22_ProcGoes_J3 p0 y20 x57 = some r := h
            rw [F_retracelaw22_ProcGoes_J3] at h
            refine At.cond x57 (by kernel_rfl) (fun b58 => ?_) (fun b58 => ?_)
            · replace h := cond_t b58 h
              refine At.seq ?_
              obtain ⟨y60, hy60, h⟩ := bind_some h
              refine At.rg [6] [] [(0, { pc := some { ρ := [], n0 := 0, res := bo y60, σ' := [], e := [] } })] (by kernel_rfl) (allc (C_retracelaw22_live y60 hy60) all0) (norm ?_)
              obtain rfl := some_eq h
              exact At.ret fun a w hs => ret_ok hR (ρ := []) (gs := []) (by kernel_rfl) all0 (by kernel_rfl) rfl rfl a w hs _ (.inl rfl)
            · replace h := cond_f b58 h
              refine At.nr [3, 7] [0, 1] (by kernel_rfl) ?_
              refine At.skip (norm ?_)
              refine At.seqJ (S := Bool) (fun s => ⟨[(6, bo s)], []⟩) (fun s => F_retracelaw22_ProcGoes_J4 s = some r) ?_ ?_
              · obtain ⟨y65, hy65, h⟩ := bind_some h
                rcases tf (y65 == 0) with b66 | b66
                · replace h := cond_t b66 h
                  obtain ⟨y67, hy67, h⟩ := bind_some h
                  refine At.rg [6] [] [(2, { pc := some { ρ := [], n0 := 0, res := i64 y65, σ' := [], e := [] } }), (4, { orc := .val (.bool true) }), (5, { pc := some { ρ := [], n0 := 0, res := bo y67, σ' := [], e := [] } })] (by kernel_rfl) (allc (C_proc_Check p0 y20 y65 hy65) (allc (congrArg D.bool b66) (allc (C_retracelaw22_live y67 hy67) all0))) (edq (l := []) (ks := [6]) (ρ := []) (st' := ⟨[(6, bo y67)], []⟩) (by kernel_rfl) (fun a w hs => ⟨y67, h, hs⟩))
                · replace h := cond_f b66 h
                  refine At.rg [6] [] [(2, { pc := some { ρ := [], n0 := 0, res := i64 y65, σ' := [], e := [] } }), (4, { orc := .val (.bool false) })] (by kernel_rfl) (allc (C_proc_Check p0 y20 y65 hy65) (allc (congrArg D.bool b66) all0)) (edq (l := []) (ks := [6]) (ρ := []) (st' := ⟨[(6, bo false)], []⟩) (by kernel_rfl) (fun a w hs => ⟨false, h, hs⟩))
              · intro x64 h
                replace h : F_retracelaw22_ProcGoes_J4 x64 = some r := h
                rw [F_retracelaw22_ProcGoes_J4] at h
                obtain rfl := some_eq h
                exact At.ret fun a w hs => ret_ok hR (ρ := []) (gs := []) (by kernel_rfl) all0 (by kernel_rfl) rfl rfl a w hs _ (.inl rfl)
end Go.Ab
