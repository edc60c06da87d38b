import Derived.Test.YtgihgmnmefbjbaaGK2
namespace Go.Ab
open Go.Proofs
set_option linter.unusedVariables false
set_option maxRecDepth 100000 in
theorem C_retraceref22_Same (p0 : T_api_Proc) (p1 : T_api_Proc) (r : Bool) (h : F_retraceref22_Same p0 p1 = some r) : FnOK Try.prog 20 [.agg (T_api_Proc.pvs p0), .agg (T_api_Proc.pvs p1)] [] (bo r) [] [] := by
  rw [F_retraceref22_Same] at h
  refine FnOK.intro Try.func20 rfl (by kernel_rfl) (by kernel_rfl) fun E gv R hR => ?_
  refine At.seq ?_
  refine At.region_end [2, 3] [0, 1] _ (st' := ⟨[(2, .ptr 0 0), (3, .ptr 1 0)], [.blk 38 (T_api_Proc.pvs p0), .blk 38 (T_api_Proc.pvs p1)]⟩) (tips := []) (by kernel_rfl) all0 (norm ?_)
  refine At.seq ?_
  refine At.seqJ (S := Bool) (fun s => ⟨[(2, .ptr 0 0), (3, .ptr 1 0), (44, bo s)], [.blk 38 (T_api_Proc.pvs p0), .blk 38 (T_api_Proc.pvs p1)]⟩) (fun s => F_retraceref22_Same_J1 p0 p1 s = some r) ?_ ?_
  · rcases tf (p0.Def != p1.Def) with b33 | b33
    · replace h := cond_t b33 h
      refine At.region_end [2, 3, 44] [0, 1] _ (st' := ⟨[(2, .ptr 0 0), (3, .ptr 1 0), (44, bo true)], [.blk 38 (T_api_Proc.pvs p0), .blk 38 (T_api_Proc.pvs p1)]⟩) (tips := [(5, { orc := .val (.bool true) })]) (by kernel_rfl) (allc (congrArg D.bool b33) all0) (fun a w hs => ⟨true, h, hs⟩)
    · replace h := cond_f b33 h
      rcases tf (p0.At != p1.At) with b34 | b34
      · replace h := cond_t b34 h
        refine At.region_end [2, 3, 44] [0, 1] _ (st' := ⟨[(2, .ptr 0 0), (3, .ptr 1 0), (44, bo true)], [.blk 38 (T_api_Proc.pvs p0), .blk 38 (T_api_Proc.pvs p1)]⟩) (tips := [(5, { orc := .val (.bool false) }), (12, { orc := .val (.bool true) })]) (by kernel_rfl) (allc (congrArg D.bool b33) (allc (congrArg D.bool b34) all0)) (fun a w hs => ⟨true, h, hs⟩)
      · replace h := cond_f b34 h
        rcases tf (p0.Fuel != p1.Fuel) with b35 | b35
        · replace h := cond_t b35 h
          refine At.region_end [2, 3, 44] [0, 1] _ (st' := ⟨[(2, .ptr 0 0), (3, .ptr 1 0), (44, bo true)], [.blk 38 (T_api_Proc.pvs p0), .blk 38 (T_api_Proc.pvs p1)]⟩) (tips := [(5, { orc := .val (.bool false) }), (12, { orc := .val (.bool false) }), (19, { orc := .val (.bool true) })]) (by kernel_rfl) (allc (congrArg D.bool b33) (allc (congrArg D.bool b34) (allc (congrArg D.bool b35) all0))) (fun a w hs => ⟨true, h, hs⟩)
        · replace h := cond_f b35 h
          rcases tf (p0.Mode != p1.Mode) with b36 | b36
          · replace h := cond_t b36 h
            refine At.region_end [2, 3, 44] [0, 1] _ (st' := ⟨[(2, .ptr 0 0), (3, .ptr 1 0), (44, bo true)], [.blk 38 (T_api_Proc.pvs p0), .blk 38 (T_api_Proc.pvs p1)]⟩) (tips := [(5, { orc := .val (.bool false) }), (12, { orc := .val (.bool false) }), (19, { orc := .val (.bool false) }), (26, { orc := .val (.bool true) })]) (by kernel_rfl) (allc (congrArg D.bool b33) (allc (congrArg D.bool b34) (allc (congrArg D.bool b35) (allc (congrArg D.bool b36) all0)))) (fun a w hs => ⟨true, h, hs⟩)
          · replace h := cond_f b36 h
            rcases tf (p0.Chan != p1.Chan) with b37 | b37
            · replace h := cond_t b37 h
              refine At.region_end [2, 3, 44] [0, 1] _ (st' := ⟨[(2, .ptr 0 0), (3, .ptr 1 0), (44, bo true)], [.blk 38 (T_api_Proc.pvs p0), .blk 38 (T_api_Proc.pvs p1)]⟩) (tips := [(5, { orc := .val (.bool false) }), (12, { orc := .val (.bool false) }), (19, { orc := .val (.bool false) }), (26, { orc := .val (.bool false) }), (33, { orc := .val (.bool true) })]) (by kernel_rfl) (allc (congrArg D.bool b33) (allc (congrArg D.bool b34) (allc (congrArg D.bool b35) (allc (congrArg D.bool b36) (allc (congrArg D.bool b37) all0))))) (fun a w hs => ⟨true, h, hs⟩)
            · replace h := cond_f b37 h
              refine At.region_end [2, 3, 44] [0, 1] _ (st' := ⟨[(2, .ptr 0 0), (3, .ptr 1 0), (44, bo (p0.Val != p1.Val))], [.blk 38 (T_api_Proc.pvs p0), .blk 38 (T_api_Proc.pvs p1)]⟩) (tips := [(5, { orc := .val (.bool false) }), (12, { orc := .val (.bool false) }), (19, { orc := .val (.bool false) }), (26, { orc := .val (.bool false) }), (33, { orc := .val (.bool false) })]) (by kernel_rfl) (allc (congrArg D.bool b33) (allc (congrArg D.bool b34) (allc (congrArg D.bool b35) (allc (congrArg D.bool b36) (allc (congrArg D.bool b37) all0))))) (fun a w hs => ⟨(p0.Val != p1.Val), h, hs⟩)
  · intro x18 h
    replace h : F_retraceref22_Same_J1 p0 p1 x18 = some r := h
    rw [F_retraceref22_Same_J1] at h
    refine At.cond x18 (by kernel_rfl) (fun b19 => ?_) (fun b19 => ?_)
    · replace h := cond_t b19 h
      refine At.seq ?_
      refine At.region_end [4] [] _ (st' := ⟨[(4, bo false)], []⟩) (tips := []) (by kernel_rfl) all0 (norm ?_)
      obtain rfl := some_eq h
      exact At.ret fun a w hs => ret_ok hR (ρ := []) (gs := []) (by kernel_rfl) all0 (by kernel_rfl) rfl rfl a w hs _ (.inl rfl)
    · replace h := cond_f b19 h
      refine At.nar [2, 3] [0, 1] (st' := ⟨[(2, .ptr 0 0), (3, .ptr 1 0)], [.blk 38 (T_api_Proc.pvs p0), .blk 38 (T_api_Proc.pvs p1)]⟩) (by kernel_rfl) ?_
      refine At.skip (norm ?_)
      refine At.seqJ (S := Bool) (fun s => ⟨[(4, bo s)], []⟩) (fun s => F_retraceref22_Same_J2 s = some r) ?_ ?_
      · rcases tf (p0.Slot == p1.Slot) with b27 | b27
        · replace h := cond_t b27 h
          rcases tf (p0.Until == p1.Until) with b28 | b28
          · replace h := cond_t b28 h
            rcases tf (p0.Since == p1.Since) with b29 | b29
            · replace h := cond_t b29 h
              obtain ⟨y30, hy30, h⟩ := bind_some h
              rcases tf y30 with b31 | b31
              · replace h := cond_t b31 h
                obtain ⟨y32, hy32, h⟩ := bind_some h
                refine At.region_end [4] [] _ (st' := ⟨[(4, bo y32)], []⟩) (tips := [(5, { orc := .val (.bool true) }), (12, { orc := .val (.bool true) }), (19, { orc := .val (.bool true) }), (24, { pc := some { ρ := [], n0 := 0, res := bo y30, σ' := [], e := [] } }), (26, { orc := .val (.bool true) }), (31, { pc := some { ρ := [], n0 := 0, res := bo y32, σ' := [], e := [] } })]) (by kernel_rfl) (allc (congrArg D.bool b27) (allc (congrArg D.bool b28) (allc (congrArg D.bool b29) (allc (C_retraceref03_Same p0.Vars p1.Vars y30 hy30) (allc (congrArg D.bool b31) (allc (C_retraceref22_Alts p0.Alts p1.Alts y32 hy32) all0)))))) (fun a w hs => ⟨y32, h, hs⟩)
              · replace h := cond_f b31 h
                refine At.region_end [4] [] _ (st' := ⟨[(4, bo false)], []⟩) (tips := [(5, { orc := .val (.bool true) }), (12, { orc := .val (.bool true) }), (19, { orc := .val (.bool true) }), (24, { pc := some { ρ := [], n0 := 0, res := bo y30, σ' := [], e := [] } }), (26, { orc := .val (.bool false) })]) (by kernel_rfl) (allc (congrArg D.bool b27) (allc (congrArg D.bool b28) (allc (congrArg D.bool b29) (allc (C_retraceref03_Same p0.Vars p1.Vars y30 hy30) (allc (congrArg D.bool b31) all0))))) (fun a w hs => ⟨false, h, hs⟩)
            · replace h := cond_f b29 h
              refine At.region_end [4] [] _ (st' := ⟨[(4, bo false)], []⟩) (tips := [(5, { orc := .val (.bool true) }), (12, { orc := .val (.bool true) }), (19, { orc := .val (.bool false) })]) (by kernel_rfl) (allc (congrArg D.bool b27) (allc (congrArg D.bool b28) (allc (congrArg D.bool b29) all0))) (fun a w hs => ⟨false, h, hs⟩)
          · replace h := cond_f b28 h
            refine At.region_end [4] [] _ (st' := ⟨[(4, bo false)], []⟩) (tips := [(5, { orc := .val (.bool true) }), (12, { orc := .val (.bool false) })]) (by kernel_rfl) (allc (congrArg D.bool b27) (allc (congrArg D.bool b28) all0)) (fun a w hs => ⟨false, h, hs⟩)
        · replace h := cond_f b27 h
          refine At.region_end [4] [] _ (st' := ⟨[(4, bo false)], []⟩) (tips := [(5, { orc := .val (.bool false) })]) (by kernel_rfl) (allc (congrArg D.bool b27) all0) (fun a w hs => ⟨false, h, hs⟩)
      · intro x26 h
        replace h : F_retraceref22_Same_J2 x26 = some r := h
        rw [F_retraceref22_Same_J2] at h
        obtain rfl := some_eq h
        exact At.ret fun a w hs => ret_ok hR (ρ := []) (gs := []) (by kernel_rfl) all0 (by kernel_rfl) rfl rfl a w hs _ (.inl rfl)
set_option maxRecDepth 100000 in
theorem C_retracelaw26_ClockTicks (p0 : T_api_Code) (p1 : (List T_api_Proc)) (p2 : Int) (r : Bool) (h : F_retracelaw26_ClockTicks p0 p1 p2 = some r) : FnOK Try.prog 9 [.agg (T_api_Code.pvs p0), lv T_api_Proc.enc p1, i64 p2] [] (bo r) [] [] := by
  rw [F_retracelaw26_ClockTicks] at h
  refine FnOK.intro Try.func9 rfl (by kernel_rfl) (by kernel_rfl) fun E gv R hR => ?_
  refine At.seq ?_
  refine At.region_end [1, 2, 3] [0] _ (st' := ⟨[(1, lv T_api_Proc.enc p1), (2, i64 p2), (3, .ptr 0 0)], [.blk 26 (T_api_Code.pvs p0)]⟩) (tips := []) (by kernel_rfl) all0 (norm ?_)
  refine At.seq ?_
  refine At.seq ?_
  obtain ⟨y7, hy7, h⟩ := bind_some h
  refine At.region_end [1, 2, 3, 18] [0] _ (st' := ⟨[(1, lv T_api_Proc.enc p1), (2, i64 p2), (3, .ptr 0 0), (18, bo (!y7))], [.blk 26 (T_api_Code.pvs p0)]⟩) (tips := [(2, { pc := some { ρ := [], n0 := 0, res := bo y7, σ' := [], e := [] } })]) (by kernel_rfl) (allc (C_retracelaw26_small p0 p1 y7 hy7) all0) (norm ?_)
  refine At.cond (!y7) (by kernel_rfl) (fun b8 => ?_) (fun b8 => ?_)
  · replace h := cond_t b8 h
    refine At.seq ?_
    obtain ⟨y10, hy10, h⟩ := bind_some h
    refine At.region_end [6] [] _ (st' := ⟨[(6, bo y10)], []⟩) (tips := [(0, { pc := some { ρ := [], n0 := 0, res := bo y10, σ' := [], e := [] } })]) (by kernel_rfl) (allc (C_retracelaw26_live y10 hy10) all0) (norm ?_)
    obtain rfl := some_eq h
    exact At.ret fun a w hs => ret_ok hR (ρ := []) (gs := []) (by kernel_rfl) all0 (by kernel_rfl) rfl rfl a w hs _ (.inl rfl)
  · replace h := cond_f b8 h
    refine At.nar [1, 2, 3] [0] (st' := ⟨[(1, lv T_api_Proc.enc p1), (2, i64 p2), (3, .ptr 0 0)], [.blk 26 (T_api_Code.pvs p0)]⟩) (by kernel_rfl) ?_
    refine At.skip (norm ?_)
    refine At.seq ?_
    obtain ⟨g12, h⟩ := grd_some h
    refine At.region_end [1, 2, 3, 7] [0, 1] _ (st' := ⟨[(1, lv T_api_Proc.enc p1), (2, i64 p2), (3, .ptr 0 0), (7, .row 1 ((([] : List T_api_Proc) ++ p1)).length)], [.blk 26 (T_api_Code.pvs p0), .row 38 11 (encL T_api_Proc.enc (([] : List T_api_Proc) ++ p1))]⟩) (tips := [(2, { form := some ((([] : List T_api_Proc) ++ p1).length, encL T_api_Proc.enc (([] : List T_api_Proc) ++ p1)) })]) (by kernel_rfl) (allc (len_app ([] : List T_api_Proc) p1) (allc (encL_app T_api_Proc.enc ([] : List T_api_Proc) p1) (allc (app_ok T_api_Proc.enc_len (by decide) g12) (allc (encL_len T_api_Proc.enc_len p1) all0)))) (norm ?_)
    refine At.seq ?_
    obtain ⟨y14, hy14, h⟩ := bind_some h
    refine At.region_end [1, 2, 3, 7, 8, 9] [0, 2, 3] _ (st' := ⟨[(1, lv T_api_Proc.enc p1), (2, i64 p2), (3, .ptr 0 0), (7, lv T_api_Proc.enc (([] : List T_api_Proc) ++ p1)), (8, .row 1 (y14.1).length), (9, .row 2 (y14.2).length)], [.blk 26 (T_api_Code.pvs p0), .row 38 11 (encL T_api_Proc.enc y14.1), .row 3 1 (encL (eInt .i64) y14.2)]⟩) (tips := [(3, { settle := [1], pc := some { ρ := [2, 3], n0 := 0, res := .tup [.row 0 (y14.1).length, .row 1 (y14.2).length], σ' := [.row 38 11 (encL T_api_Proc.enc y14.1), .row 3 1 (encL (eInt .i64) y14.2)], e := [] } })]) (by kernel_rfl) (allc (C_clock_Tick p0 (([] : List T_api_Proc) ++ p1) p2 y14 hy14) all0) (norm ?_)
    refine At.seq ?_
    refine At.seq ?_
    refine At.region_end [1, 2, 3, 7, 8, 9, 34] [0, 1, 2] _ (st' := ⟨[(1, lv T_api_Proc.enc p1), (2, i64 p2), (3, .ptr 0 0), (7, lv T_api_Proc.enc (([] : List T_api_Proc) ++ p1)), (8, .row 1 (y14.1).length), (9, .row 2 (y14.2).length), (34, bo (((y14.1).length : Int) != ((p1).length : Int)))], [.blk 26 (T_api_Code.pvs p0), .row 38 11 (encL T_api_Proc.enc y14.1), .row 3 1 (encL (eInt .i64) y14.2)]⟩) (tips := []) (by kernel_rfl) all0 (norm ?_)
    refine At.cond (((y14.1).length : Int) != ((p1).length : Int)) (by kernel_rfl) (fun b16 => ?_) (fun b16 => ?_)
    · replace h := cond_t b16 h
      refine At.seq ?_
      refine At.region_end [6] [] _ (st' := ⟨[(6, bo false)], []⟩) (tips := []) (by kernel_rfl) all0 (norm ?_)
      obtain rfl := some_eq h
      exact At.ret fun a w hs => ret_ok hR (ρ := []) (gs := []) (by kernel_rfl) all0 (by kernel_rfl) rfl rfl a w hs _ (.inl rfl)
    · replace h := cond_f b16 h
      refine At.nar [1, 2, 3, 7, 8, 9] [0, 1, 2] (st' := ⟨[(1, lv T_api_Proc.enc p1), (2, i64 p2), (3, .ptr 0 0), (7, lv T_api_Proc.enc (([] : List T_api_Proc) ++ p1)), (8, .row 1 (y14.1).length), (9, .row 2 (y14.2).length)], [.blk 26 (T_api_Code.pvs p0), .row 38 11 (encL T_api_Proc.enc y14.1), .row 3 1 (encL (eInt .i64) y14.2)]⟩) (by kernel_rfl) ?_
      refine At.skip (norm ?_)
      refine At.seq ?_
      refine At.region_end [1, 2, 3, 7, 8, 9, 10] [0, 1, 2] _ (st' := ⟨[(1, lv T_api_Proc.enc p1), (2, i64 p2), (3, .ptr 0 0), (7, lv T_api_Proc.enc (([] : List T_api_Proc) ++ p1)), (8, .row 1 (y14.1).length), (9, .row 2 (y14.2).length), (10, i64 0)], [.blk 26 (T_api_Code.pvs p0), .row 38 11 (encL T_api_Proc.enc y14.1), .row 3 1 (encL (eInt .i64) y14.2)]⟩) (tips := []) (by kernel_rfl) all0 (norm ?_)
      refine At.seq ?_
      refine At.seq ?_
      refine At.region_end [1, 2, 3, 7, 8, 9, 10, 11] [0, 1, 2] _ (st' := ⟨[(1, lv T_api_Proc.enc p1), (2, i64 p2), (3, .ptr 0 0), (7, lv T_api_Proc.enc (([] : List T_api_Proc) ++ p1)), (8, .row 1 (y14.1).length), (9, .row 2 (y14.2).length), (10, i64 0), (11, i64 0)], [.blk 26 (T_api_Code.pvs p0), .row 38 11 (encL T_api_Proc.enc y14.1), .row 3 1 (encL (eInt .i64) y14.2)]⟩) (tips := []) (by kernel_rfl) all0 (norm ?_)
      refine At.block ?_
      refine At.loop (fun s : (Int × Int) => F_retracelaw26_ClockTicks_L5 p0 p1 p2 y14 s.1 s.2) (fun s : (Int × Int) => ⟨[(1, lv T_api_Proc.enc p1), (2, i64 p2), (3, .ptr 0 0), (7, lv T_api_Proc.enc (([] : List T_api_Proc) ++ p1)), (8, .row 1 (y14.1).length), (9, .row 2 (y14.2).length), (10, i64 s.1), (11, i64 s.2)], [.blk 26 (T_api_Code.pvs p0), .row 38 11 (encL T_api_Proc.enc y14.1), .row 3 1 (encL (eInt .i64) y14.2)]⟩) r (0, 0) h ?_
      rintro ⟨x152, x153⟩ oo154 h f155
      replace h : F_retracelaw26_ClockTicks_L5 p0 p1 p2 y14 x152 x153 = some oo154 := h
      rw [F_retracelaw26_ClockTicks_L5] at h
      refine At.seq ?_
      refine At.seq ?_
      refine At.region_end [1, 2, 3, 7, 8, 9, 10, 11, 38] [0, 1, 2] _ (st' := ⟨[(1, lv T_api_Proc.enc p1), (2, i64 p2), (3, .ptr 0 0), (7, lv T_api_Proc.enc (([] : List T_api_Proc) ++ p1)), (8, .row 1 (y14.1).length), (9, .row 2 (y14.2).length), (10, i64 x152), (11, i64 x153), (38, bo (decide (x153 < ((p1).length : Int))))], [.blk 26 (T_api_Code.pvs p0), .row 38 11 (encL T_api_Proc.enc y14.1), .row 3 1 (encL (eInt .i64) y14.2)]⟩) (tips := []) (by kernel_rfl) all0 (norm ?_)
      refine At.cond (decide (x153 < ((p1).length : Int))) (by kernel_rfl) (fun b157 => ?_) (fun b157 => ?_)
      · replace h := cond_t b157 h
        refine At.nar [1, 2, 3, 7, 8, 9, 10, 11] [0, 1, 2] (st' := ⟨[(1, lv T_api_Proc.enc p1), (2, i64 p2), (3, .ptr 0 0), (7, lv T_api_Proc.enc (([] : List T_api_Proc) ++ p1)), (8, .row 1 (y14.1).length), (9, .row 2 (y14.2).length), (10, i64 x152), (11, i64 x153)], [.blk 26 (T_api_Code.pvs p0), .row 38 11 (encL T_api_Proc.enc y14.1), .row 3 1 (encL (eInt .i64) y14.2)]⟩) (by kernel_rfl) ?_
        refine At.skip (norm ?_)
        refine At.seqJ (S := Int) (fun s => ⟨[(1, lv T_api_Proc.enc p1), (2, i64 p2), (3, .ptr 0 0), (7, lv T_api_Proc.enc (([] : List T_api_Proc) ++ p1)), (8, .row 1 (y14.1).length), (9, .row 2 (y14.2).length), (10, i64 s), (11, i64 x153)], [.blk 26 (T_api_Code.pvs p0), .row 38 11 (encL T_api_Proc.enc y14.1), .row 3 1 (encL (eInt .i64) y14.2)]⟩) (fun s => F_retracelaw26_ClockTicks_J1 x153 s = some oo154) ?_ ?_
        · refine At.block ?_
          refine At.seq ?_
          obtain ⟨y222, hy222, h⟩ := bind_some h
          obtain ⟨y223, hy223, h⟩ := bind_some h
          refine At.draw_end mixedOrd 1 [1, 2, 3, 7, 8, 9, 10, 11, 12] [0, 1, 2, 3] _ (st' := ⟨[(1, lv T_api_Proc.enc p1), (2, i64 p2), (3, .ptr 0 0), (7, lv T_api_Proc.enc (([] : List T_api_Proc) ++ p1)), (8, .row 1 (y14.1).length), (9, .row 2 (y14.2).length), (10, i64 x152), (11, i64 x153), (12, .ptr 3 0)], [.blk 26 (T_api_Code.pvs p0), .row 38 11 (encL T_api_Proc.enc y14.1), .row 3 1 (encL (eInt .i64) y14.2), .blk 62 (T_retraceref26_Woken.pvs y223)]⟩) (tips := [(0, { T := [0], r := 3 }), (3, { tip := { orc := .cells (T_api_Proc.enc y222) } }), (6, { tip := { pc := some { ρ := [], n0 := 0, res := .agg (T_retraceref26_Woken.pvs y223), σ' := [], e := [] } }, r := 3 }), (7, { r := 3 }), (8, { T := [3], r := 4 })]) (by kernel_rfl) (allc (elemAt_of T_api_Proc.enc_len hy222) (allc (C_retraceref26_Wake p0 y222 p2 y223 hy223) all0)) (norm ?_)
          refine At.seq ?_
          obtain ⟨y226, hy226, h⟩ := bind_some h
          obtain ⟨y227, hy227, h⟩ := bind_some h
          refine At.draw_end mixedOrd 1 [1, 2, 3, 7, 8, 9, 10, 11, 12, 13, 14] [0, 1, 2, 3, 4] _ (st' := ⟨[(1, lv T_api_Proc.enc p1), (2, i64 p2), (3, .ptr 0 0), (7, lv T_api_Proc.enc (([] : List T_api_Proc) ++ p1)), (8, .row 1 (y14.1).length), (9, .row 2 (y14.2).length), (10, i64 x152), (11, i64 x153), (12, .ptr 3 0), (13, .ptr 4 0), (14, bo y227.2)], [.blk 26 (T_api_Code.pvs p0), .row 38 11 (encL T_api_Proc.enc y14.1), .row 3 1 (encL (eInt .i64) y14.2), .blk 62 (T_retraceref26_Woken.pvs y223), .blk 38 (T_api_Proc.pvs y227.1)]⟩) (tips := [(0, { T := [0], r := 4 }), (3, { tip := { orc := .cells (T_api_Proc.enc y226) } }), (6, { tip := { pc := some { ρ := [], n0 := 0, res := .tup [.agg (T_api_Proc.pvs y227.1), bo y227.2], σ' := [], e := [] } }, r := 4 }), (10, { r := 4 }), (11, { T := [4], r := 5 })]) (by kernel_rfl) (allc (elemAt_of T_api_Proc.enc_len hy226) (allc (C_clock_Wake p0 y226 p2 y227 hy227) all0)) (norm ?_)
          refine At.seq ?_
          refine At.seqJ (S := Bool) (fun s => ⟨[(1, lv T_api_Proc.enc p1), (2, i64 p2), (3, .ptr 0 0), (7, lv T_api_Proc.enc (([] : List T_api_Proc) ++ p1)), (8, .row 1 (y14.1).length), (9, .row 2 (y14.2).length), (10, i64 x152), (11, i64 x153), (12, .ptr 3 0), (90, bo s)], [.blk 26 (T_api_Code.pvs p0), .row 38 11 (encL T_api_Proc.enc y14.1), .row 3 1 (encL (eInt .i64) y14.2), .blk 62 (T_retraceref26_Woken.pvs y223)]⟩) (fun s => F_retracelaw26_ClockTicks_J2 y14 x152 x153 y223 s = some oo154) ?_ ?_
          · obtain ⟨y276, hy276, h⟩ := bind_some h
            rcases tf (!y276) with b277 | b277
            · replace h := cond_t b277 h
              refine At.draw_end mixedOrd 0 [1, 2, 3, 7, 8, 9, 10, 11, 12, 90] [0, 1, 2, 3] _ (st' := ⟨[(1, lv T_api_Proc.enc p1), (2, i64 p2), (3, .ptr 0 0), (7, lv T_api_Proc.enc (([] : List T_api_Proc) ++ p1)), (8, .row 1 (y14.1).length), (9, .row 2 (y14.2).length), (10, i64 x152), (11, i64 x153), (12, .ptr 3 0), (90, bo true)], [.blk 26 (T_api_Code.pvs p0), .row 38 11 (encL T_api_Proc.enc y14.1), .row 3 1 (encL (eInt .i64) y14.2), .blk 62 (T_retraceref26_Woken.pvs y223)]⟩) (tips := [(0, { T := [4], r := 5 }), (1, { r := 5 }), (2, { T := [3], r := 5 }), (3, { tip := { pc := some { ρ := [], n0 := 0, res := bo y276, σ' := [], e := [] } }, r := 5 }), (5, { tip := { orc := .val (.bool true) } }), (7, { r := 5 }), (12, { r := 5 }), (16, { r := 5 }), (18, { r := 5 }), (30, { r := 5 })]) (by kernel_rfl) (allc (C_retraceref22_Same y227.1 y223.P y276 hy276) (allc (congrArg D.bool b277) all0)) (fun a w hs => ⟨true, h, hs⟩)
            · replace h := cond_f b277 h
              rcases tf (!(y227.2 == y223.Is)) with b278 | b278
              · replace h := cond_t b278 h
                refine At.draw_end mixedOrd 0 [1, 2, 3, 7, 8, 9, 10, 11, 12, 90] [0, 1, 2, 3] _ (st' := ⟨[(1, lv T_api_Proc.enc p1), (2, i64 p2), (3, .ptr 0 0), (7, lv T_api_Proc.enc (([] : List T_api_Proc) ++ p1)), (8, .row 1 (y14.1).length), (9, .row 2 (y14.2).length), (10, i64 x152), (11, i64 x153), (12, .ptr 3 0), (90, bo true)], [.blk 26 (T_api_Code.pvs p0), .row 38 11 (encL T_api_Proc.enc y14.1), .row 3 1 (encL (eInt .i64) y14.2), .blk 62 (T_retraceref26_Woken.pvs y223)]⟩) (tips := [(0, { T := [4], r := 5 }), (1, { r := 5 }), (2, { T := [3], r := 5 }), (3, { tip := { pc := some { ρ := [], n0 := 0, res := bo y276, σ' := [], e := [] } }, r := 5 }), (5, { tip := { orc := .val (.bool false) } }), (7, { r := 5 }), (8, { T := [3], r := 5 }), (11, { tip := { orc := .val (.bool true) } }), (12, { r := 5 }), (16, { r := 5 }), (18, { r := 5 }), (30, { r := 5 })]) (by kernel_rfl) (allc (C_retraceref22_Same y227.1 y223.P y276 hy276) (allc (congrArg D.bool b277) (allc (congrArg D.bool b278) all0))) (fun a w hs => ⟨true, h, hs⟩)
              · replace h := cond_f b278 h
                obtain ⟨y279, hy279, h⟩ := bind_some h
                obtain ⟨y280, hy280, h⟩ := bind_some h
                rcases tf (!y280) with b281 | b281
                · replace h := cond_t b281 h
                  refine At.draw_end mixedOrd 0 [1, 2, 3, 7, 8, 9, 10, 11, 12, 90] [0, 1, 2, 3] _ (st' := ⟨[(1, lv T_api_Proc.enc p1), (2, i64 p2), (3, .ptr 0 0), (7, lv T_api_Proc.enc (([] : List T_api_Proc) ++ p1)), (8, .row 1 (y14.1).length), (9, .row 2 (y14.2).length), (10, i64 x152), (11, i64 x153), (12, .ptr 3 0), (90, bo true)], [.blk 26 (T_api_Code.pvs p0), .row 38 11 (encL T_api_Proc.enc y14.1), .row 3 1 (encL (eInt .i64) y14.2), .blk 62 (T_retraceref26_Woken.pvs y223)]⟩) (tips := [(0, { T := [4], r := 5 }), (1, { r := 5 }), (2, { T := [3], r := 5 }), (3, { tip := { pc := some { ρ := [], n0 := 0, res := bo y276, σ' := [], e := [] } }, r := 5 }), (5, { tip := { orc := .val (.bool false) } }), (7, { r := 5 }), (8, { T := [3], r := 5 }), (11, { tip := { orc := .val (.bool false) } }), (12, { r := 5 }), (14, { r := 5 }), (15, { tip := { orc := .cells [.int .i64 y279.Def, .int .i64 y279.At, .list false (y279.Vars).length (encL (eInt .i64) y279.Vars), .int .i64 y279.Fuel, .int .i64 y279.Mode, .int .i64 y279.Chan, .int .i64 y279.Val, .int .i64 y279.Slot, .int .i64 y279.Until, .int .i64 y279.Since, .list false (y279.Alts).length (encL T_api_Alt.enc y279.Alts)] }, T := [1], r := 5 }), (16, { r := 5 }), (17, { T := [3], r := 5 }), (18, { tip := { pc := some { ρ := [], n0 := 0, res := bo y280, σ' := [], e := [] } }, r := 5 }), (21, { tip := { orc := .val (.bool true) } }), (30, { r := 5 })]) (by kernel_rfl) (allc (C_retraceref22_Same y227.1 y223.P y276 hy276) (allc (congrArg D.bool b277) (allc (congrArg D.bool b278) (allc (rEl hy279) (allc (rElC T_api_Proc.enc_len hy279 0 11 (by decide) (by rfl)) (allc (C_retraceref22_Same y279 y223.P y280 hy280) (allc (congrArg D.bool b281) all0))))))) (fun a w hs => ⟨true, h, hs⟩)
                · replace h := cond_f b281 h
                  obtain ⟨y282, hy282, h⟩ := bind_some h
                  obtain ⟨y283, hy283, h⟩ := bind_some h
                  obtain ⟨y284, hy284, h⟩ := bind_some h
                  refine At.draw_end mixedOrd 0 [1, 2, 3, 7, 8, 9, 10, 11, 12, 90] [0, 1, 2, 3] _ (st' := ⟨[(1, lv T_api_Proc.enc p1), (2, i64 p2), (3, .ptr 0 0), (7, lv T_api_Proc.enc (([] : List T_api_Proc) ++ p1)), (8, .row 1 (y14.1).length), (9, .row 2 (y14.2).length), (10, i64 x152), (11, i64 x153), (12, .ptr 3 0), (90, bo (!y284))], [.blk 26 (T_api_Code.pvs p0), .row 38 11 (encL T_api_Proc.enc y14.1), .row 3 1 (encL (eInt .i64) y14.2), .blk 62 (T_retraceref26_Woken.pvs y223)]⟩) (tips := [(0, { T := [4], r := 5 }), (1, { r := 5 }), (2, { T := [3], r := 5 }), (3, { tip := { pc := some { ρ := [], n0 := 0, res := bo y276, σ' := [], e := [] } }, r := 5 }), (5, { tip := { orc := .val (.bool false) } }), (7, { r := 5 }), (8, { T := [3], r := 5 }), (11, { tip := { orc := .val (.bool false) } }), (12, { r := 5 }), (14, { r := 5 }), (15, { tip := { orc := .cells [.int .i64 y279.Def, .int .i64 y279.At, .list false (y279.Vars).length (encL (eInt .i64) y279.Vars), .int .i64 y279.Fuel, .int .i64 y279.Mode, .int .i64 y279.Chan, .int .i64 y279.Val, .int .i64 y279.Slot, .int .i64 y279.Until, .int .i64 y279.Since, .list false (y279.Alts).length (encL T_api_Alt.enc y279.Alts)] }, T := [1], r := 5 }), (16, { r := 5 }), (17, { T := [3], r := 5 }), (18, { tip := { pc := some { ρ := [], n0 := 0, res := bo y280, σ' := [], e := [] } }, r := 5 }), (21, { tip := { orc := .val (.bool false) } }), (24, { tip := { orc := .cells (T_api_Proc.enc y282) } }), (28, { tip := { orc := .cells (T_api_Proc.enc y283) } }), (30, { tip := { pc := some { ρ := [], n0 := 0, res := bo y284, σ' := [], e := [] } }, r := 5 })]) (by kernel_rfl) (allc (C_retraceref22_Same y227.1 y223.P y276 hy276) (allc (congrArg D.bool b277) (allc (congrArg D.bool b278) (allc (rEl hy279) (allc (rElC T_api_Proc.enc_len hy279 0 11 (by decide) (by rfl)) (allc (C_retraceref22_Same y279 y223.P y280 hy280) (allc (congrArg D.bool b281) (allc (elemAt_of T_api_Proc.enc_len hy282) (allc (elemAt_of T_api_Proc.enc_len hy283) (allc (C_retraceref22_Same y282 y283 y284 hy284) all0)))))))))) (fun a w hs => ⟨(!y284), h, hs⟩)
          · intro x257 h
            replace h : F_retracelaw26_ClockTicks_J2 y14 x152 x153 y223 x257 = some oo154 := h
            rw [F_retracelaw26_ClockTicks_J2] at h
            refine At.cond x257 (by kernel_rfl) (fun b258 => ?_) (fun b258 => ?_)
            · replace h := cond_t b258 h
              refine At.seq ?_
              refine At.region_end [6] [] _ (st' := ⟨[(6, bo false)], []⟩) (tips := []) (by kernel_rfl) all0 (norm ?_)
              obtain ⟨r259, h, e260⟩ := map_inr h
              rw [f155 _ e260] at h
              obtain rfl := some_eq h
              exact At.ret fun a w hs => ret_ok hR (ρ := []) (gs := []) (by kernel_rfl) all0 (by kernel_rfl) rfl rfl a w hs _ (.inl rfl)
            · replace h := cond_f b258 h
              refine At.nar [1, 2, 3, 7, 8, 9, 10, 11, 12] [0, 1, 2, 3] (st' := ⟨[(1, lv T_api_Proc.enc p1), (2, i64 p2), (3, .ptr 0 0), (7, lv T_api_Proc.enc (([] : List T_api_Proc) ++ p1)), (8, .row 1 (y14.1).length), (9, .row 2 (y14.2).length), (10, i64 x152), (11, i64 x153), (12, .ptr 3 0)], [.blk 26 (T_api_Code.pvs p0), .row 38 11 (encL T_api_Proc.enc y14.1), .row 3 1 (encL (eInt .i64) y14.2), .blk 62 (T_retraceref26_Woken.pvs y223)]⟩) (by kernel_rfl) ?_
              refine At.skip (norm ?_)
              refine At.seq ?_
              refine At.region_end [1, 2, 3, 7, 8, 9, 10, 11, 92] [0, 1, 2] _ (st' := ⟨[(1, lv T_api_Proc.enc p1), (2, i64 p2), (3, .ptr 0 0), (7, lv T_api_Proc.enc (([] : List T_api_Proc) ++ p1)), (8, .row 1 (y14.1).length), (9, .row 2 (y14.2).length), (10, i64 x152), (11, i64 x153), (92, bo y223.Is)], [.blk 26 (T_api_Code.pvs p0), .row 38 11 (encL T_api_Proc.enc y14.1), .row 3 1 (encL (eInt .i64) y14.2)]⟩) (tips := []) (by kernel_rfl) all0 (norm ?_)
              refine At.cond y223.Is (by kernel_rfl) (fun b261 => ?_) (fun b261 => ?_)
              · replace h := cond_t b261 h
                refine At.seq ?_
                refine At.seqJ (S := Bool) (fun s => ⟨[(1, lv T_api_Proc.enc p1), (2, i64 p2), (3, .ptr 0 0), (7, lv T_api_Proc.enc (([] : List T_api_Proc) ++ p1)), (8, .row 1 (y14.1).length), (9, .row 2 (y14.2).length), (10, i64 x152), (11, i64 x153), (104, bo s)], [.blk 26 (T_api_Code.pvs p0), .row 38 11 (encL T_api_Proc.enc y14.1), .row 3 1 (encL (eInt .i64) y14.2)]⟩) (fun s => F_retracelaw26_ClockTicks_J3 x152 x153 s = some oo154) ?_ ?_
                · rcases tf (decide (((y14.2).length : Int) ≤ x152)) with b274 | b274
                  · replace h := cond_t b274 h
                    refine At.region_end [1, 2, 3, 7, 8, 9, 10, 11, 104] [0, 1, 2] _ (st' := ⟨[(1, lv T_api_Proc.enc p1), (2, i64 p2), (3, .ptr 0 0), (7, lv T_api_Proc.enc (([] : List T_api_Proc) ++ p1)), (8, .row 1 (y14.1).length), (9, .row 2 (y14.2).length), (10, i64 x152), (11, i64 x153), (104, bo true)], [.blk 26 (T_api_Code.pvs p0), .row 38 11 (encL T_api_Proc.enc y14.1), .row 3 1 (encL (eInt .i64) y14.2)]⟩) (tips := [(4, { orc := .val (.bool true) })]) (by kernel_rfl) (allc (congrArg D.bool b274) all0) (fun a w hs => ⟨true, h, hs⟩)
                  · replace h := cond_f b274 h
                    obtain ⟨y275, hy275, h⟩ := bind_some h
                    refine At.region_end [1, 2, 3, 7, 8, 9, 10, 11, 104] [0, 1, 2] _ (st' := ⟨[(1, lv T_api_Proc.enc p1), (2, i64 p2), (3, .ptr 0 0), (7, lv T_api_Proc.enc (([] : List T_api_Proc) ++ p1)), (8, .row 1 (y14.1).length), (9, .row 2 (y14.2).length), (10, i64 x152), (11, i64 x153), (104, bo (y275 != x153))], [.blk 26 (T_api_Code.pvs p0), .row 38 11 (encL T_api_Proc.enc y14.1), .row 3 1 (encL (eInt .i64) y14.2)]⟩) (tips := [(4, { orc := .val (.bool false) }), (8, { orc := .val (.int .i64 y275) })]) (by kernel_rfl) (allc (congrArg D.bool b274) (allc ((rAt_of (he_int .i64) (d := .int .i64 y275) hy275 rfl).1) (allc ((rAt_of (he_int .i64) (d := .int .i64 y275) hy275 rfl).2) all0))) (fun a w hs => ⟨(y275 != x153), h, hs⟩)
                · intro x270 h
                  replace h : F_retracelaw26_ClockTicks_J3 x152 x153 x270 = some oo154 := h
                  rw [F_retracelaw26_ClockTicks_J3] at h
                  refine At.cond x270 (by kernel_rfl) (fun b271 => ?_) (fun b271 => ?_)
                  · replace h := cond_t b271 h
                    refine At.seq ?_
                    refine At.region_end [6] [] _ (st' := ⟨[(6, bo false)], []⟩) (tips := []) (by kernel_rfl) all0 (norm ?_)
                    obtain ⟨r272, h, e273⟩ := map_inr h
                    rw [f155 _ e273] at h
                    obtain rfl := some_eq h
                    exact At.ret fun a w hs => ret_ok hR (ρ := []) (gs := []) (by kernel_rfl) all0 (by kernel_rfl) rfl rfl a w hs _ (.inl rfl)
                  · replace h := cond_f b271 h
                    refine At.nar [1, 2, 3, 7, 8, 9, 10, 11] [0, 1, 2] (st' := ⟨[(1, lv T_api_Proc.enc p1), (2, i64 p2), (3, .ptr 0 0), (7, lv T_api_Proc.enc (([] : List T_api_Proc) ++ p1)), (8, .row 1 (y14.1).length), (9, .row 2 (y14.2).length), (10, i64 x152), (11, i64 x153)], [.blk 26 (T_api_Code.pvs p0), .row 38 11 (encL T_api_Proc.enc y14.1), .row 3 1 (encL (eInt .i64) y14.2)]⟩) (by kernel_rfl) ?_
                    refine At.skip (norm ?_)
                    refine At.region_end [1, 2, 3, 7, 8, 9, 10, 11] [0, 1, 2] _ (st' := ⟨[(1, lv T_api_Proc.enc p1), (2, i64 p2), (3, .ptr 0 0), (7, lv T_api_Proc.enc (([] : List T_api_Proc) ++ p1)), (8, .row 1 (y14.1).length), (9, .row 2 (y14.2).length), (10, i64 (w64 (x152 + 1))), (11, i64 x153)], [.blk 26 (T_api_Code.pvs p0), .row 38 11 (encL T_api_Proc.enc y14.1), .row 3 1 (encL (eInt .i64) y14.2)]⟩) (tips := []) (by kernel_rfl) all0 (fun a w hs => ⟨(w64 (x152 + 1)), h, hs⟩)
              · replace h := cond_f b261 h
                refine At.nar [1, 2, 3, 7, 8, 9, 10, 11] [0, 1, 2] (st' := ⟨[(1, lv T_api_Proc.enc p1), (2, i64 p2), (3, .ptr 0 0), (7, lv T_api_Proc.enc (([] : List T_api_Proc) ++ p1)), (8, .row 1 (y14.1).length), (9, .row 2 (y14.2).length), (10, i64 x152), (11, i64 x153)], [.blk 26 (T_api_Code.pvs p0), .row 38 11 (encL T_api_Proc.enc y14.1), .row 3 1 (encL (eInt .i64) y14.2)]⟩) (by kernel_rfl) ?_
                refine At.skip (fun a w hs => ⟨x152, h, hs⟩)
        · intro x219 h
          replace h : F_retracelaw26_ClockTicks_J1 x153 x219 = some oo154 := h
          rw [F_retracelaw26_ClockTicks_J1] at h
          refine At.region_end [1, 2, 3, 7, 8, 9, 10, 11] [0, 1, 2] _ (st' := ⟨[(1, lv T_api_Proc.enc p1), (2, i64 p2), (3, .ptr 0 0), (7, lv T_api_Proc.enc (([] : List T_api_Proc) ++ p1)), (8, .row 1 (y14.1).length), (9, .row 2 (y14.2).length), (10, i64 x219), (11, i64 (w64 (x153 + 1)))], [.blk 26 (T_api_Code.pvs p0), .row 38 11 (encL T_api_Proc.enc y14.1), .row 3 1 (encL (eInt .i64) y14.2)]⟩) (tips := []) (by kernel_rfl) all0 (fun a w hs => ⟨_, (some_eq h).symm, hs⟩)
      · replace h := cond_f b157 h
        refine At.nar [9, 10] [2] (st' := ⟨[(9, .row 0 (y14.2).length), (10, i64 x152)], [.row 3 1 (encL (eInt .i64) y14.2)]⟩) (by kernel_rfl) ?_
        obtain ⟨r285, h, e286⟩ := map_inr h
        rw [f155 _ e286] at h
        refine At.exit (norm ?_)
        refine At.seqJ (S := Bool) (fun s => ⟨[(6, bo s)], []⟩) (fun s => F_retracelaw26_ClockTicks_J4 s = some r) ?_ ?_
        · rcases tf (x152 == ((y14.2).length : Int)) with b290 | b290
          · replace h := cond_t b290 h
            obtain ⟨y291, hy291, h⟩ := bind_some h
            refine At.region_end [6] [] _ (st' := ⟨[(6, bo y291)], []⟩) (tips := [(4, { orc := .val (.bool true) }), (5, { pc := some { ρ := [], n0 := 0, res := bo y291, σ' := [], e := [] } })]) (by kernel_rfl) (allc (congrArg D.bool b290) (allc (C_retracelaw26_live y291 hy291) all0)) (fun a w hs => ⟨y291, h, hs⟩)
          · replace h := cond_f b290 h
            refine At.region_end [6] [] _ (st' := ⟨[(6, bo false)], []⟩) (tips := [(4, { orc := .val (.bool false) })]) (by kernel_rfl) (allc (congrArg D.bool b290) all0) (fun a w hs => ⟨false, h, hs⟩)
        · intro x289 h
          replace h : F_retracelaw26_ClockTicks_J4 x289 = some r := h
          rw [F_retracelaw26_ClockTicks_J4] at h
          obtain rfl := some_eq h
          exact At.ret fun a w hs => ret_ok hR (ρ := []) (gs := []) (by kernel_rfl) all0 (by kernel_rfl) rfl rfl a w hs _ (.inl rfl)
set_option maxRecDepth 100000 in
theorem C_retracelaw26_ClockAfter (p0 : T_api_Code) (p1 : (List T_api_Proc)) (p2 : Int) (r : Bool) (h : F_retracelaw26_ClockAfter p0 p1 p2 = some r) : FnOK Try.prog 10 [.agg (T_api_Code.pvs p0), lv T_api_Proc.enc p1, i64 p2] [] (bo r) [] [] := by
  rw [F_retracelaw26_ClockAfter] at h
  refine FnOK.intro Try.func10 rfl (by kernel_rfl) (by kernel_rfl) fun E gv R hR => ?_
  refine At.seq ?_
  refine At.region_end [1, 2, 3] [0] _ (st' := ⟨[(1, lv T_api_Proc.enc p1), (2, i64 p2), (3, .ptr 0 0)], [.blk 26 (T_api_Code.pvs p0)]⟩) (tips := []) (by kernel_rfl) all0 (norm ?_)
  refine At.seq ?_
  refine At.seq ?_
  obtain ⟨y7, hy7, h⟩ := bind_some h
  refine At.region_end [1, 2, 3, 17] [0] _ (st' := ⟨[(1, lv T_api_Proc.enc p1), (2, i64 p2), (3, .ptr 0 0), (17, bo (!y7))], [.blk 26 (T_api_Code.pvs p0)]⟩) (tips := [(2, { pc := some { ρ := [], n0 := 0, res := bo y7, σ' := [], e := [] } })]) (by kernel_rfl) (allc (C_retracelaw26_small p0 p1 y7 hy7) all0) (norm ?_)
  refine At.cond (!y7) (by kernel_rfl) (fun b8 => ?_) (fun b8 => ?_)
  · replace h := cond_t b8 h
    refine At.seq ?_
    obtain ⟨y10, hy10, h⟩ := bind_some h
    refine At.region_end [6] [] _ (st' := ⟨[(6, bo y10)], []⟩) (tips := [(0, { pc := some { ρ := [], n0 := 0, res := bo y10, σ' := [], e := [] } })]) (by kernel_rfl) (allc (C_retracelaw26_live y10 hy10) all0) (norm ?_)
    obtain rfl := some_eq h
    exact At.ret fun a w hs => ret_ok hR (ρ := []) (gs := []) (by kernel_rfl) all0 (by kernel_rfl) rfl rfl a w hs _ (.inl rfl)
  · replace h := cond_f b8 h
    refine At.nar [1, 2, 3] [0] (st' := ⟨[(1, lv T_api_Proc.enc p1), (2, i64 p2), (3, .ptr 0 0)], [.blk 26 (T_api_Code.pvs p0)]⟩) (by kernel_rfl) ?_
    refine At.skip (norm ?_)
    refine At.seq ?_
    obtain ⟨y12, hy12, h⟩ := bind_some h
    refine At.region_end [1, 2, 3, 7] [0, 1] _ (st' := ⟨[(1, lv T_api_Proc.enc p1), (2, i64 p2), (3, .ptr 0 0), (7, .row 1 (y12.1).length)], [.blk 26 (T_api_Code.pvs p0), .row 38 11 (encL T_api_Proc.enc y12.1)]⟩) (tips := [(3, { pc := some { ρ := [1, 2], n0 := 0, res := .tup [.row 0 (y12.1).length, .row 1 (y12.2).length], σ' := [.row 38 11 (encL T_api_Proc.enc y12.1), .row 3 1 (encL (eInt .i64) y12.2)], e := [] } })]) (by kernel_rfl) (allc (C_clock_Tick p0 p1 p2 y12 hy12) all0) (norm ?_)
    refine At.seq ?_
    refine At.seq ?_
    refine At.region_end [1, 2, 3, 7, 30] [0, 1] _ (st' := ⟨[(1, lv T_api_Proc.enc p1), (2, i64 p2), (3, .ptr 0 0), (7, .row 1 (y12.1).length), (30, bo (((y12.1).length : Int) != ((p1).length : Int)))], [.blk 26 (T_api_Code.pvs p0), .row 38 11 (encL T_api_Proc.enc y12.1)]⟩) (tips := []) (by kernel_rfl) all0 (norm ?_)
    refine At.cond (((y12.1).length : Int) != ((p1).length : Int)) (by kernel_rfl) (fun b14 => ?_) (fun b14 => ?_)
    · replace h := cond_t b14 h
      refine At.seq ?_
      refine At.region_end [6] [] _ (st' := ⟨[(6, bo false)], []⟩) (tips := []) (by kernel_rfl) all0 (norm ?_)
      obtain rfl := some_eq h
      exact At.ret fun a w hs => ret_ok hR (ρ := []) (gs := []) (by kernel_rfl) all0 (by kernel_rfl) rfl rfl a w hs _ (.inl rfl)
    · replace h := cond_f b14 h
      refine At.nar [1, 2, 3, 7] [0, 1] (st' := ⟨[(1, lv T_api_Proc.enc p1), (2, i64 p2), (3, .ptr 0 0), (7, .row 1 (y12.1).length)], [.blk 26 (T_api_Code.pvs p0), .row 38 11 (encL T_api_Proc.enc y12.1)]⟩) (by kernel_rfl) ?_
      refine At.skip (norm ?_)
      refine At.seq ?_
      refine At.seq ?_
      refine At.region_end [1, 2, 3, 7, 9] [0, 1] _ (st' := ⟨[(1, lv T_api_Proc.enc p1), (2, i64 p2), (3, .ptr 0 0), (7, .row 1 (y12.1).length), (9, i64 0)], [.blk 26 (T_api_Code.pvs p0), .row 38 11 (encL T_api_Proc.enc y12.1)]⟩) (tips := []) (by kernel_rfl) all0 (norm ?_)
      refine At.block ?_
      refine At.loop (fun s : (Int) => F_retracelaw26_ClockAfter_L3 p0 p1 p2 y12 s) (fun s : (Int) => ⟨[(1, lv T_api_Proc.enc p1), (2, i64 p2), (3, .ptr 0 0), (7, .row 1 (y12.1).length), (9, i64 s)], [.blk 26 (T_api_Code.pvs p0), .row 38 11 (encL T_api_Proc.enc y12.1)]⟩) r 0 h ?_
      intro x72 oo73 h f74
      replace h : F_retracelaw26_ClockAfter_L3 p0 p1 p2 y12 x72 = some oo73 := h
      rw [F_retracelaw26_ClockAfter_L3] at h
      refine At.seq ?_
      refine At.seq ?_
      refine At.region_end [1, 2, 3, 7, 9, 34] [0, 1] _ (st' := ⟨[(1, lv T_api_Proc.enc p1), (2, i64 p2), (3, .ptr 0 0), (7, .row 1 (y12.1).length), (9, i64 x72), (34, bo (decide (x72 < ((y12.1).length : Int))))], [.blk 26 (T_api_Code.pvs p0), .row 38 11 (encL T_api_Proc.enc y12.1)]⟩) (tips := []) (by kernel_rfl) all0 (norm ?_)
      refine At.cond (decide (x72 < ((y12.1).length : Int))) (by kernel_rfl) (fun b76 => ?_) (fun b76 => ?_)
      · replace h := cond_t b76 h
        refine At.nar [1, 2, 3, 7, 9] [0, 1] (st' := ⟨[(1, lv T_api_Proc.enc p1), (2, i64 p2), (3, .ptr 0 0), (7, .row 1 (y12.1).length), (9, i64 x72)], [.blk 26 (T_api_Code.pvs p0), .row 38 11 (encL T_api_Proc.enc y12.1)]⟩) (by kernel_rfl) ?_
        refine At.skip (norm ?_)
        refine At.seq ?_
        refine At.block ?_
        refine At.seq ?_
        obtain ⟨y103, hy103, h⟩ := bind_some h
        obtain ⟨y104, hy104, h⟩ := bind_some h
        refine At.region_end [1, 2, 3, 7, 9, 10, 11] [0, 1] _ (st' := ⟨[(1, lv T_api_Proc.enc p1), (2, i64 p2), (3, .ptr 0 0), (7, .row 1 (y12.1).length), (9, i64 x72), (10, i64 y104.1), (11, bo y104.2)], [.blk 26 (T_api_Code.pvs p0), .row 38 11 (encL T_api_Proc.enc y12.1)]⟩) (tips := [(3, { orc := .cells [.int .i64 y103.Def, .int .i64 y103.At, .list false (y103.Vars).length (encL (eInt .i64) y103.Vars), .int .i64 y103.Fuel, .int .i64 y103.Mode, .int .i64 y103.Chan, .int .i64 y103.Val, .int .i64 y103.Slot, .int .i64 y103.Until, .int .i64 y103.Since, .list false (y103.Alts).length (encL T_api_Alt.enc y103.Alts)] }), (4, { pc := some { ρ := [], n0 := 0, res := .tup [i64 y104.1, bo y104.2], σ' := [], e := [] } })]) (by kernel_rfl) (allc (rEl hy103) (allc (rElC T_api_Proc.enc_len hy103 0 11 (by decide) (by rfl)) (allc (C_clock_Due y103 y104 hy104) all0))) (norm ?_)
        refine At.seqJ (S := Bool) (fun s => ⟨[(1, lv T_api_Proc.enc p1), (2, i64 p2), (3, .ptr 0 0), (7, .row 1 (y12.1).length), (9, i64 x72), (72, bo s)], [.blk 26 (T_api_Code.pvs p0), .row 38 11 (encL T_api_Proc.enc y12.1)]⟩) (fun s => F_retracelaw26_ClockAfter_J1 x72 s = some oo73) ?_ ?_
        · obtain ⟨y118, hy118, h⟩ := bind_some h
          obtain ⟨y119, hy119, h⟩ := bind_some h
          rcases tf (!y119) with b120 | b120
          · replace h := cond_t b120 h
            refine At.draw_end mixedOrd 0 [1, 2, 3, 7, 9, 72] [0, 1] _ (st' := ⟨[(1, lv T_api_Proc.enc p1), (2, i64 p2), (3, .ptr 0 0), (7, .row 1 (y12.1).length), (9, i64 x72), (72, bo true)], [.blk 26 (T_api_Code.pvs p0), .row 38 11 (encL T_api_Proc.enc y12.1)]⟩) (tips := [(0, { T := [0], r := 2 }), (1, { r := 2 }), (3, { r := 2 }), (4, { tip := { orc := .cells [.int .i64 y118.Def, .int .i64 y118.At, .list false (y118.Vars).length (encL (eInt .i64) y118.Vars), .int .i64 y118.Fuel, .int .i64 y118.Mode, .int .i64 y118.Chan, .int .i64 y118.Val, .int .i64 y118.Slot, .int .i64 y118.Until, .int .i64 y118.Since, .list false (y118.Alts).length (encL T_api_Alt.enc y118.Alts)] }, T := [1], r := 2 }), (5, { tip := { pc := some { ρ := [], n0 := 0, res := bo y119, σ' := [], e := [] } }, r := 2 }), (7, { tip := { orc := .val (.bool true) } }), (16, { r := 2 })]) (by kernel_rfl) (allc (rEl hy118) (allc (rElC T_api_Proc.enc_len hy118 0 11 (by decide) (by rfl)) (allc (C_retraceref22_Is p0 y118 y119 hy119) (allc (congrArg D.bool b120) all0)))) (fun a w hs => ⟨true, h, hs⟩)
          · replace h := cond_f b120 h
            rcases tf y104.2 with b121 | b121
            · replace h := cond_t b121 h
              rcases tf (decide (y104.1 ≤ p2)) with b122 | b122
              · replace h := cond_t b122 h
                refine At.draw_end mixedOrd 0 [1, 2, 3, 7, 9, 72] [0, 1] _ (st' := ⟨[(1, lv T_api_Proc.enc p1), (2, i64 p2), (3, .ptr 0 0), (7, .row 1 (y12.1).length), (9, i64 x72), (72, bo true)], [.blk 26 (T_api_Code.pvs p0), .row 38 11 (encL T_api_Proc.enc y12.1)]⟩) (tips := [(0, { T := [0], r := 2 }), (1, { r := 2 }), (3, { r := 2 }), (4, { tip := { orc := .cells [.int .i64 y118.Def, .int .i64 y118.At, .list false (y118.Vars).length (encL (eInt .i64) y118.Vars), .int .i64 y118.Fuel, .int .i64 y118.Mode, .int .i64 y118.Chan, .int .i64 y118.Val, .int .i64 y118.Slot, .int .i64 y118.Until, .int .i64 y118.Since, .list false (y118.Alts).length (encL T_api_Alt.enc y118.Alts)] }, T := [1], r := 2 }), (5, { tip := { pc := some { ρ := [], n0 := 0, res := bo y119, σ' := [], e := [] } }, r := 2 }), (7, { tip := { orc := .val (.bool false) } }), (9, { tip := { orc := .val (.bool true) } }), (15, { tip := { orc := .val (.bool true) } }), (16, { r := 2 })]) (by kernel_rfl) (allc (rEl hy118) (allc (rElC T_api_Proc.enc_len hy118 0 11 (by decide) (by rfl)) (allc (C_retraceref22_Is p0 y118 y119 hy119) (allc (congrArg D.bool b120) (allc (congrArg D.bool b121) (allc (congrArg D.bool b122) all0)))))) (fun a w hs => ⟨true, h, hs⟩)
              · replace h := cond_f b122 h
                obtain ⟨y123, hy123, h⟩ := bind_some h
                obtain ⟨y124, hy124, h⟩ := bind_some h
                refine At.draw_end mixedOrd 0 [1, 2, 3, 7, 9, 72] [0, 1] _ (st' := ⟨[(1, lv T_api_Proc.enc p1), (2, i64 p2), (3, .ptr 0 0), (7, .row 1 (y12.1).length), (9, i64 x72), (72, bo (y123.Fuel != y124.Fuel))], [.blk 26 (T_api_Code.pvs p0), .row 38 11 (encL T_api_Proc.enc y12.1)]⟩) (tips := [(0, { T := [0], r := 2 }), (1, { r := 2 }), (3, { r := 2 }), (4, { tip := { orc := .cells [.int .i64 y118.Def, .int .i64 y118.At, .list false (y118.Vars).length (encL (eInt .i64) y118.Vars), .int .i64 y118.Fuel, .int .i64 y118.Mode, .int .i64 y118.Chan, .int .i64 y118.Val, .int .i64 y118.Slot, .int .i64 y118.Until, .int .i64 y118.Since, .list false (y118.Alts).length (encL T_api_Alt.enc y118.Alts)] }, T := [1], r := 2 }), (5, { tip := { pc := some { ρ := [], n0 := 0, res := bo y119, σ' := [], e := [] } }, r := 2 }), (7, { tip := { orc := .val (.bool false) } }), (9, { tip := { orc := .val (.bool true) } }), (15, { tip := { orc := .val (.bool false) } }), (16, { r := 2 }), (18, { r := 2 }), (19, { r := 2 }), (20, { tip := { orc := .val (.int .i64 y123.Fuel) }, T := [1], r := 2 }), (23, { tip := { orc := .cells (T_api_Proc.enc y124) } })]) (by kernel_rfl) (allc (rEl hy118) (allc (rElC T_api_Proc.enc_len hy118 0 11 (by decide) (by rfl)) (allc (C_retraceref22_Is p0 y118 y119 hy119) (allc (congrArg D.bool b120) (allc (congrArg D.bool b121) (allc (congrArg D.bool b122) (allc (rEl hy123) (allc (rElV T_api_Proc.enc_len hy123 3 (by decide) (d := .int .i64 y123.Fuel) (by rfl)) (allc (elemAt_of T_api_Proc.enc_len hy124) all0))))))))) (fun a w hs => ⟨(y123.Fuel != y124.Fuel), h, hs⟩)
            · replace h := cond_f b121 h
              obtain ⟨y125, hy125, h⟩ := bind_some h
              obtain ⟨y126, hy126, h⟩ := bind_some h
              refine At.draw_end mixedOrd 0 [1, 2, 3, 7, 9, 72] [0, 1] _ (st' := ⟨[(1, lv T_api_Proc.enc p1), (2, i64 p2), (3, .ptr 0 0), (7, .row 1 (y12.1).length), (9, i64 x72), (72, bo (y125.Fuel != y126.Fuel))], [.blk 26 (T_api_Code.pvs p0), .row 38 11 (encL T_api_Proc.enc y12.1)]⟩) (tips := [(0, { T := [0], r := 2 }), (1, { r := 2 }), (3, { r := 2 }), (4, { tip := { orc := .cells [.int .i64 y118.Def, .int .i64 y118.At, .list false (y118.Vars).length (encL (eInt .i64) y118.Vars), .int .i64 y118.Fuel, .int .i64 y118.Mode, .int .i64 y118.Chan, .int .i64 y118.Val, .int .i64 y118.Slot, .int .i64 y118.Until, .int .i64 y118.Since, .list false (y118.Alts).length (encL T_api_Alt.enc y118.Alts)] }, T := [1], r := 2 }), (5, { tip := { pc := some { ρ := [], n0 := 0, res := bo y119, σ' := [], e := [] } }, r := 2 }), (7, { tip := { orc := .val (.bool false) } }), (9, { tip := { orc := .val (.bool false) } }), (16, { r := 2 }), (18, { r := 2 }), (19, { r := 2 }), (20, { tip := { orc := .val (.int .i64 y125.Fuel) }, T := [1], r := 2 }), (23, { tip := { orc := .cells (T_api_Proc.enc y126) } })]) (by kernel_rfl) (allc (rEl hy118) (allc (rElC T_api_Proc.enc_len hy118 0 11 (by decide) (by rfl)) (allc (C_retraceref22_Is p0 y118 y119 hy119) (allc (congrArg D.bool b120) (allc (congrArg D.bool b121) (allc (rEl hy125) (allc (rElV T_api_Proc.enc_len hy125 3 (by decide) (d := .int .i64 y125.Fuel) (by rfl)) (allc (elemAt_of T_api_Proc.enc_len hy126) all0)))))))) (fun a w hs => ⟨(y125.Fuel != y126.Fuel), h, hs⟩)
        · intro x114 h
          replace h : F_retracelaw26_ClockAfter_J1 x72 x114 = some oo73 := h
          rw [F_retracelaw26_ClockAfter_J1] at h
          refine At.cond x114 (by kernel_rfl) (fun b115 => ?_) (fun b115 => ?_)
          · replace h := cond_t b115 h
            refine At.seq ?_
            refine At.region_end [6] [] _ (st' := ⟨[(6, bo false)], []⟩) (tips := []) (by kernel_rfl) all0 (norm ?_)
            obtain ⟨r116, h, e117⟩ := map_inr h
            rw [f74 _ e117] at h
            obtain rfl := some_eq h
            exact At.ret fun a w hs => ret_ok hR (ρ := []) (gs := []) (by kernel_rfl) all0 (by kernel_rfl) rfl rfl a w hs _ (.inl rfl)
          · replace h := cond_f b115 h
            refine At.nar [1, 2, 3, 7, 9] [0, 1] (st' := ⟨[(1, lv T_api_Proc.enc p1), (2, i64 p2), (3, .ptr 0 0), (7, .row 1 (y12.1).length), (9, i64 x72)], [.blk 26 (T_api_Code.pvs p0), .row 38 11 (encL T_api_Proc.enc y12.1)]⟩) (by kernel_rfl) ?_
            refine At.skip (norm ?_)
            refine At.region_end [1, 2, 3, 7, 9] [0, 1] _ (st' := ⟨[(1, lv T_api_Proc.enc p1), (2, i64 p2), (3, .ptr 0 0), (7, .row 1 (y12.1).length), (9, i64 (w64 (x72 + 1)))], [.blk 26 (T_api_Code.pvs p0), .row 38 11 (encL T_api_Proc.enc y12.1)]⟩) (tips := []) (by kernel_rfl) all0 (fun a w hs => ⟨_, (some_eq h).symm, hs⟩)
      · replace h := cond_f b76 h
        refine At.nar [2, 3, 7] [0, 1] (st' := ⟨[(2, i64 p2), (3, .ptr 0 0), (7, .row 1 (y12.1).length)], [.blk 26 (T_api_Code.pvs p0), .row 38 11 (encL T_api_Proc.enc y12.1)]⟩) (by kernel_rfl) ?_
        obtain ⟨r127, h, e128⟩ := map_inr h
        rw [f74 _ e128] at h
        refine At.exit (norm ?_)
        refine At.seq ?_
        obtain ⟨y130, hy130, h⟩ := bind_some h
        refine At.region_end [7, 12, 13] [2, 3] _ (st' := ⟨[(7, lv T_api_Proc.enc y12.1), (12, .row 0 (y130.1).length), (13, .row 1 (y130.2).length)], [.row 38 11 (encL T_api_Proc.enc y130.1), .row 3 1 (encL (eInt .i64) y130.2)]⟩) (tips := [(3, { settle := [1], pc := some { ρ := [2, 3], n0 := 0, res := .tup [.row 0 (y130.1).length, .row 1 (y130.2).length], σ' := [.row 38 11 (encL T_api_Proc.enc y130.1), .row 3 1 (encL (eInt .i64) y130.2)], e := [] } })]) (by kernel_rfl) (allc (C_clock_Tick p0 y12.1 p2 y130 hy130) all0) (norm ?_)
        refine At.seqJ (S := Bool) (fun s => ⟨[(6, bo s)], []⟩) (fun s => F_retracelaw26_ClockAfter_J2 s = some r) ?_ ?_
        · rcases tf (((y130.1).length : Int) == ((y12.1).length : Int)) with b135 | b135
          · replace h := cond_t b135 h
            rcases tf (((y130.2).length : Int) == 0) with b136 | b136
            · replace h := cond_t b136 h
              obtain ⟨y137, hy137, h⟩ := bind_some h
              refine At.region_end [6] [] _ (st' := ⟨[(6, bo y137)], []⟩) (tips := [(5, { orc := .val (.bool true) }), (10, { orc := .val (.bool true) }), (11, { pc := some { ρ := [], n0 := 0, res := bo y137, σ' := [], e := [] } })]) (by kernel_rfl) (allc (congrArg D.bool b135) (allc (congrArg D.bool b136) (allc (C_retracelaw26_live y137 hy137) all0))) (fun a w hs => ⟨y137, h, hs⟩)
            · replace h := cond_f b136 h
              refine At.region_end [6] [] _ (st' := ⟨[(6, bo false)], []⟩) (tips := [(5, { orc := .val (.bool true) }), (10, { orc := .val (.bool false) })]) (by kernel_rfl) (allc (congrArg D.bool b135) (allc (congrArg D.bool b136) all0)) (fun a w hs => ⟨false, h, hs⟩)
          · replace h := cond_f b135 h
            refine At.region_end [6] [] _ (st' := ⟨[(6, bo false)], []⟩) (tips := [(5, { orc := .val (.bool false) })]) (by kernel_rfl) (allc (congrArg D.bool b135) all0) (fun a w hs => ⟨false, h, hs⟩)
        · intro x134 h
          replace h : F_retracelaw26_ClockAfter_J2 x134 = some r := h
          rw [F_retracelaw26_ClockAfter_J2] at h
          obtain rfl := some_eq h
          exact At.ret fun a w hs => ret_ok hR (ρ := []) (gs := []) (by kernel_rfl) all0 (by kernel_rfl) rfl rfl a w hs _ (.inl rfl)
end Go.Ab
