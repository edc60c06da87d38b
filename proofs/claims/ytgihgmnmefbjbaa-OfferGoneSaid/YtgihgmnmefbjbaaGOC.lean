import Derived.Test.YtgihgmnmefbjbaaGO2
namespace Go.Ab
open Go.Proofs
set_option linter.unusedVariables false
set_option maxRecDepth 100000 in
theorem C_offer_Met (p0 : T_api_Code) (p1 : T_api_Proc) (p2 : Int) (p3 : Int) (r : T_api_Proc) (h : F_offer_Met p0 p1 p2 p3 = some r) : FnOK Try.prog 19 [.agg (T_api_Code.pvs p0), .agg (T_api_Proc.pvs p1), i64 p2, i64 p3] [] (.agg (T_api_Proc.pvs r)) [] [] := by
  rw [F_offer_Met] at h
  refine FnOK.intro Try.func19 rfl (by kernel_rfl) (by kernel_rfl) fun E gv R hR => ?_
  refine At.seq ?_
  refine At.region_end [2, 3, 4, 5, 8] [0, 1, 2] _ (st' := ⟨[(2, i64 p2), (3, i64 p3), (4, .ptr 0 0), (5, .ptr 1 0), (8, .ptr 2 0)], [.blk 26 (T_api_Code.pvs p0), .blk 38 (T_api_Proc.pvs p1), .blk 38 [i64 0, i64 0, .d (.list true 0 []), i64 0, i64 0, i64 0, i64 0, i64 0, i64 0, i64 0, .d (.list true 0 [])]]⟩) (tips := []) (by kernel_rfl) all0 (norm ?_)
  refine At.seq ?_
  refine At.region_end [2, 3, 4, 5, 8, 9] [0, 1, 2, 3] _ (st' := ⟨[(2, i64 p2), (3, i64 p3), (4, .ptr 0 0), (5, .ptr 1 0), (8, .ptr 2 0), (9, .ptr 3 0)], [.blk 26 (T_api_Code.pvs p0), .blk 38 (T_api_Proc.pvs p1), .blk 38 [i64 0, i64 0, .d (.list true 0 []), i64 0, i64 0, i64 0, i64 0, i64 0, i64 0, i64 0, .d (.list true 0 [])], .blk 38 (T_api_Proc.pvs p1)]⟩) (tips := []) (by kernel_rfl) all0 (norm ?_)
  refine At.seq ?_
  obtain ⟨y2, hy2, h⟩ := bind_some h
  refine At.region_end [2, 3, 4, 5, 8, 9] [0, 1, 2, 3, 4] _ (st' := ⟨[(2, i64 p2), (3, i64 p3), (4, .ptr 0 0), (5, .ptr 1 0), (8, .ptr 2 0), (9, .ptr 3 0)], [.blk 26 (T_api_Code.pvs p0), .blk 38 (T_api_Proc.pvs p1), .blk 38 [i64 0, i64 0, .d (.list true 0 []), i64 0, i64 0, i64 0, i64 0, i64 0, i64 0, i64 0, .d (.list true 0 [])], .blk 38 [i64 p1.Def, i64 p1.At, .row 4 (y2).length, i64 p1.Fuel, i64 p1.Mode, i64 p1.Chan, i64 p1.Val, i64 p1.Slot, i64 p1.Until, i64 p1.Since, lv T_api_Alt.enc p1.Alts], .row 3 1 (encL (eInt .i64) y2)]⟩) (tips := [(2, { pc := some { ρ := [4], n0 := 0, res := .row 0 (y2).length, σ' := [.row 3 1 (encL (eInt .i64) y2)], e := [] } })]) (by kernel_rfl) (allc (C_slices_Clone_int_int p1.Vars y2 hy2) all0) (norm ?_)
  refine At.seq ?_
  refine At.draw_end mixedOrd 0 [2, 3, 4, 5, 8, 9, 10, 11, 12] [0, 1, 2, 3, 4] _ (st' := ⟨[(2, i64 p2), (3, i64 p3), (4, .ptr 0 0), (5, .ptr 1 0), (8, .ptr 2 0), (9, .ptr 3 0), (10, i64 p1.At), (11, i64 p1.Slot), (12, i64 0)], [.blk 26 (T_api_Code.pvs p0), .blk 38 (T_api_Proc.pvs p1), .blk 38 [i64 0, i64 0, .d (.list true 0 []), i64 0, i64 0, i64 0, i64 0, i64 0, i64 0, i64 0, .d (.list true 0 [])], .blk 38 [i64 p1.Def, i64 p1.At, .row 4 (y2).length, i64 p1.Fuel, i64 p1.Mode, i64 p1.Chan, i64 p1.Val, i64 p1.Slot, i64 p1.Until, i64 p1.Since, lv T_api_Alt.enc p1.Alts], .row 3 1 (encL (eInt .i64) y2)]⟩) (tips := [(0, { r := 5 }), (1, { T := [1], r := 5 }), (2, { r := 5 }), (3, { T := [1], r := 5 })]) (by kernel_rfl) all0 (norm ?_)
  refine At.seqJ (S := Int × Int × Int) (fun s => ⟨[(3, i64 p3), (4, .ptr 0 0), (8, .ptr 1 0), (9, .ptr 2 0), (10, i64 s.1), (11, i64 s.2.1), (12, i64 s.2.2)], [.blk 26 (T_api_Code.pvs p0), .blk 38 [i64 0, i64 0, .d (.list true 0 []), i64 0, i64 0, i64 0, i64 0, i64 0, i64 0, i64 0, .d (.list true 0 [])], .blk 38 [i64 p1.Def, i64 p1.At, .row 3 (y2).length, i64 p1.Fuel, i64 p1.Mode, i64 p1.Chan, i64 p1.Val, i64 p1.Slot, i64 p1.Until, i64 p1.Since, lv T_api_Alt.enc p1.Alts], .row 3 1 (encL (eInt .i64) y2)]⟩) (fun s => F_offer_Met_J1 p0 p1 p3 y2 s.1 s.2.1 s.2.2 = some r) ?_ ?_
  · refine At.seq ?_
    obtain ⟨y96, hy96, h⟩ := bind_some h
    refine At.region_end [2, 3, 4, 5, 8, 9, 10, 11, 12, 13, 14] [0, 1, 2, 3, 4, 5] _ (st' := ⟨[(2, i64 p2), (3, i64 p3), (4, .ptr 0 0), (5, .ptr 1 0), (8, .ptr 2 0), (9, .ptr 3 0), (10, i64 p1.At), (11, i64 p1.Slot), (12, i64 0), (13, .ptr 5 0), (14, bo y96.2)], [.blk 26 (T_api_Code.pvs p0), .blk 38 (T_api_Proc.pvs p1), .blk 38 [i64 0, i64 0, .d (.list true 0 []), i64 0, i64 0, i64 0, i64 0, i64 0, i64 0, i64 0, .d (.list true 0 [])], .blk 38 [i64 p1.Def, i64 p1.At, .row 4 (y2).length, i64 p1.Fuel, i64 p1.Mode, i64 p1.Chan, i64 p1.Val, i64 p1.Slot, i64 p1.Until, i64 p1.Since, lv T_api_Alt.enc p1.Alts], .row 3 1 (encL (eInt .i64) y2), .blk 51 (T_api_Alt.pvs y96.1)]⟩) (tips := [(2, { pc := some { ρ := [], n0 := 0, res := .tup [.agg (T_api_Alt.pvs y96.1), bo y96.2], σ' := [], e := [] } })]) (by kernel_rfl) (allc (C_offer_alt p1 p2 y96 hy96) all0) (norm ?_)
    refine At.block ?_
    refine At.seq ?_
    refine At.region_end [2, 3, 4, 5, 8, 9, 10, 11, 12, 13, 30] [0, 1, 2, 3, 4, 5] _ (st' := ⟨[(2, i64 p2), (3, i64 p3), (4, .ptr 0 0), (5, .ptr 1 0), (8, .ptr 2 0), (9, .ptr 3 0), (10, i64 p1.At), (11, i64 p1.Slot), (12, i64 0), (13, .ptr 5 0), (30, bo y96.2)], [.blk 26 (T_api_Code.pvs p0), .blk 38 (T_api_Proc.pvs p1), .blk 38 [i64 0, i64 0, .d (.list true 0 []), i64 0, i64 0, i64 0, i64 0, i64 0, i64 0, i64 0, .d (.list true 0 [])], .blk 38 [i64 p1.Def, i64 p1.At, .row 4 (y2).length, i64 p1.Fuel, i64 p1.Mode, i64 p1.Chan, i64 p1.Val, i64 p1.Slot, i64 p1.Until, i64 p1.Since, lv T_api_Alt.enc p1.Alts], .row 3 1 (encL (eInt .i64) y2), .blk 51 (T_api_Alt.pvs y96.1)]⟩) (tips := []) (by kernel_rfl) all0 (norm ?_)
    refine At.cond y96.2 (by kernel_rfl) (fun b97 => ?_) (fun b97 => ?_)
    · replace h := cond_t b97 h
      refine At.draw_end mixedOrd 0 [3, 4, 8, 9, 10, 11, 12] [0, 2, 3, 4] _ (st' := ⟨[(3, i64 p3), (4, .ptr 0 0), (8, .ptr 1 0), (9, .ptr 2 0), (10, i64 y96.1.Goto), (11, i64 y96.1.Slot), (12, i64 y96.1.Kind)], [.blk 26 (T_api_Code.pvs p0), .blk 38 [i64 0, i64 0, .d (.list true 0 []), i64 0, i64 0, i64 0, i64 0, i64 0, i64 0, i64 0, .d (.list true 0 [])], .blk 38 [i64 p1.Def, i64 p1.At, .row 3 (y2).length, i64 p1.Fuel, i64 p1.Mode, i64 p1.Chan, i64 p1.Val, i64 p1.Slot, i64 p1.Until, i64 p1.Since, lv T_api_Alt.enc p1.Alts], .row 3 1 (encL (eInt .i64) y2)]⟩) (tips := [(0, { r := 6 }), (1, { T := [5], r := 6 }), (2, { r := 6 }), (3, { T := [5], r := 6 }), (4, { r := 6 }), (5, { T := [5], r := 6 })]) (by kernel_rfl) all0 (fun a w hs => ⟨(y96.1.Goto, y96.1.Slot, y96.1.Kind), h, hs⟩)
    · replace h := cond_f b97 h
      refine At.seqJ (S := Bool) (fun s => ⟨[(2, i64 p2), (3, i64 p3), (4, .ptr 0 0), (5, .ptr 1 0), (8, .ptr 2 0), (9, .ptr 3 0), (10, i64 p1.At), (11, i64 p1.Slot), (12, i64 0), (38, bo s)], [.blk 26 (T_api_Code.pvs p0), .blk 38 (T_api_Proc.pvs p1), .blk 38 [i64 0, i64 0, .d (.list true 0 []), i64 0, i64 0, i64 0, i64 0, i64 0, i64 0, i64 0, .d (.list true 0 [])], .blk 38 [i64 p1.Def, i64 p1.At, .row 4 (y2).length, i64 p1.Fuel, i64 p1.Mode, i64 p1.Chan, i64 p1.Val, i64 p1.Slot, i64 p1.Until, i64 p1.Since, lv T_api_Alt.enc p1.Alts], .row 3 1 (encL (eInt .i64) y2)]⟩) (fun s => F_offer_Met_J4 p0 p1 p2 p3 y2 s = some r) ?_ ?_
      · rcases tf (p2 == (-1)) with b105 | b105
        · replace h := cond_t b105 h
          refine At.region_end [2, 3, 4, 5, 8, 9, 10, 11, 12, 38] [0, 1, 2, 3, 4] _ (st' := ⟨[(2, i64 p2), (3, i64 p3), (4, .ptr 0 0), (5, .ptr 1 0), (8, .ptr 2 0), (9, .ptr 3 0), (10, i64 p1.At), (11, i64 p1.Slot), (12, i64 0), (38, bo (p1.Mode == 1))], [.blk 26 (T_api_Code.pvs p0), .blk 38 (T_api_Proc.pvs p1), .blk 38 [i64 0, i64 0, .d (.list true 0 []), i64 0, i64 0, i64 0, i64 0, i64 0, i64 0, i64 0, .d (.list true 0 [])], .blk 38 [i64 p1.Def, i64 p1.At, .row 4 (y2).length, i64 p1.Fuel, i64 p1.Mode, i64 p1.Chan, i64 p1.Val, i64 p1.Slot, i64 p1.Until, i64 p1.Since, lv T_api_Alt.enc p1.Alts], .row 3 1 (encL (eInt .i64) y2)]⟩) (tips := [(2, { orc := .val (.bool true) })]) (by kernel_rfl) (allc (congrArg D.bool b105) all0) (fun a w hs => ⟨(p1.Mode == 1), h, hs⟩)
        · replace h := cond_f b105 h
          refine At.region_end [2, 3, 4, 5, 8, 9, 10, 11, 12, 38] [0, 1, 2, 3, 4] _ (st' := ⟨[(2, i64 p2), (3, i64 p3), (4, .ptr 0 0), (5, .ptr 1 0), (8, .ptr 2 0), (9, .ptr 3 0), (10, i64 p1.At), (11, i64 p1.Slot), (12, i64 0), (38, bo false)], [.blk 26 (T_api_Code.pvs p0), .blk 38 (T_api_Proc.pvs p1), .blk 38 [i64 0, i64 0, .d (.list true 0 []), i64 0, i64 0, i64 0, i64 0, i64 0, i64 0, i64 0, .d (.list true 0 [])], .blk 38 [i64 p1.Def, i64 p1.At, .row 4 (y2).length, i64 p1.Fuel, i64 p1.Mode, i64 p1.Chan, i64 p1.Val, i64 p1.Slot, i64 p1.Until, i64 p1.Since, lv T_api_Alt.enc p1.Alts], .row 3 1 (encL (eInt .i64) y2)]⟩) (tips := [(2, { orc := .val (.bool false) })]) (by kernel_rfl) (allc (congrArg D.bool b105) all0) (fun a w hs => ⟨false, h, hs⟩)
      · intro x99 h
        replace h : F_offer_Met_J4 p0 p1 p2 p3 y2 x99 = some r := h
        rw [F_offer_Met_J4] at h
        refine At.cond x99 (by kernel_rfl) (fun b100 => ?_) (fun b100 => ?_)
        · replace h := cond_t b100 h
          refine At.region_end [3, 4, 8, 9, 10, 11, 12] [0, 2, 3, 4] _ (st' := ⟨[(3, i64 p3), (4, .ptr 0 0), (8, .ptr 1 0), (9, .ptr 2 0), (10, i64 p1.At), (11, i64 p1.Slot), (12, i64 2)], [.blk 26 (T_api_Code.pvs p0), .blk 38 [i64 0, i64 0, .d (.list true 0 []), i64 0, i64 0, i64 0, i64 0, i64 0, i64 0, i64 0, .d (.list true 0 [])], .blk 38 [i64 p1.Def, i64 p1.At, .row 3 (y2).length, i64 p1.Fuel, i64 p1.Mode, i64 p1.Chan, i64 p1.Val, i64 p1.Slot, i64 p1.Until, i64 p1.Since, lv T_api_Alt.enc p1.Alts], .row 3 1 (encL (eInt .i64) y2)]⟩) (tips := []) (by kernel_rfl) all0 (fun a w hs => ⟨(p1.At, p1.Slot, 2), h, hs⟩)
        · replace h := cond_f b100 h
          refine At.seqJ (S := Bool) (fun s => ⟨[(3, i64 p3), (4, .ptr 0 0), (8, .ptr 1 0), (9, .ptr 2 0), (10, i64 p1.At), (11, i64 p1.Slot), (12, i64 0), (46, bo s)], [.blk 26 (T_api_Code.pvs p0), .blk 38 [i64 0, i64 0, .d (.list true 0 []), i64 0, i64 0, i64 0, i64 0, i64 0, i64 0, i64 0, .d (.list true 0 [])], .blk 38 [i64 p1.Def, i64 p1.At, .row 3 (y2).length, i64 p1.Fuel, i64 p1.Mode, i64 p1.Chan, i64 p1.Val, i64 p1.Slot, i64 p1.Until, i64 p1.Since, lv T_api_Alt.enc p1.Alts], .row 3 1 (encL (eInt .i64) y2)]⟩) (fun s => F_offer_Met_J5 p0 p1 p3 y2 s = some r) ?_ ?_
          · rcases tf (p2 == (-1)) with b104 | b104
            · replace h := cond_t b104 h
              refine At.region_end [3, 4, 8, 9, 10, 11, 12, 46] [0, 2, 3, 4] _ (st' := ⟨[(3, i64 p3), (4, .ptr 0 0), (8, .ptr 1 0), (9, .ptr 2 0), (10, i64 p1.At), (11, i64 p1.Slot), (12, i64 0), (46, bo (p1.Mode == 2))], [.blk 26 (T_api_Code.pvs p0), .blk 38 [i64 0, i64 0, .d (.list true 0 []), i64 0, i64 0, i64 0, i64 0, i64 0, i64 0, i64 0, .d (.list true 0 [])], .blk 38 [i64 p1.Def, i64 p1.At, .row 3 (y2).length, i64 p1.Fuel, i64 p1.Mode, i64 p1.Chan, i64 p1.Val, i64 p1.Slot, i64 p1.Until, i64 p1.Since, lv T_api_Alt.enc p1.Alts], .row 3 1 (encL (eInt .i64) y2)]⟩) (tips := [(2, { orc := .val (.bool true) })]) (by kernel_rfl) (allc (congrArg D.bool b104) all0) (fun a w hs => ⟨(p1.Mode == 2), h, hs⟩)
            · replace h := cond_f b104 h
              refine At.region_end [3, 4, 8, 9, 10, 11, 12, 46] [0, 2, 3, 4] _ (st' := ⟨[(3, i64 p3), (4, .ptr 0 0), (8, .ptr 1 0), (9, .ptr 2 0), (10, i64 p1.At), (11, i64 p1.Slot), (12, i64 0), (46, bo false)], [.blk 26 (T_api_Code.pvs p0), .blk 38 [i64 0, i64 0, .d (.list true 0 []), i64 0, i64 0, i64 0, i64 0, i64 0, i64 0, i64 0, .d (.list true 0 [])], .blk 38 [i64 p1.Def, i64 p1.At, .row 3 (y2).length, i64 p1.Fuel, i64 p1.Mode, i64 p1.Chan, i64 p1.Val, i64 p1.Slot, i64 p1.Until, i64 p1.Since, lv T_api_Alt.enc p1.Alts], .row 3 1 (encL (eInt .i64) y2)]⟩) (tips := [(2, { orc := .val (.bool false) })]) (by kernel_rfl) (allc (congrArg D.bool b104) all0) (fun a w hs => ⟨false, h, hs⟩)
          · intro x102 h
            replace h : F_offer_Met_J5 p0 p1 p3 y2 x102 = some r := h
            rw [F_offer_Met_J5] at h
            refine At.cond x102 (by kernel_rfl) (fun b103 => ?_) (fun b103 => ?_)
            · replace h := cond_t b103 h
              refine At.region_end [3, 4, 8, 9, 10, 11, 12] [0, 1, 2, 3] _ (st' := ⟨[(3, i64 p3), (4, .ptr 0 0), (8, .ptr 1 0), (9, .ptr 2 0), (10, i64 p1.At), (11, i64 p1.Slot), (12, i64 1)], [.blk 26 (T_api_Code.pvs p0), .blk 38 [i64 0, i64 0, .d (.list true 0 []), i64 0, i64 0, i64 0, i64 0, i64 0, i64 0, i64 0, .d (.list true 0 [])], .blk 38 [i64 p1.Def, i64 p1.At, .row 3 (y2).length, i64 p1.Fuel, i64 p1.Mode, i64 p1.Chan, i64 p1.Val, i64 p1.Slot, i64 p1.Until, i64 p1.Since, lv T_api_Alt.enc p1.Alts], .row 3 1 (encL (eInt .i64) y2)]⟩) (tips := []) (by kernel_rfl) all0 (fun a w hs => ⟨(p1.At, p1.Slot, 1), h, hs⟩)
            · replace h := cond_f b103 h
              refine At.nar [3, 4, 8, 9, 10, 11, 12] [0, 1, 2, 3] (st' := ⟨[(3, i64 p3), (4, .ptr 0 0), (8, .ptr 1 0), (9, .ptr 2 0), (10, i64 p1.At), (11, i64 p1.Slot), (12, i64 0)], [.blk 26 (T_api_Code.pvs p0), .blk 38 [i64 0, i64 0, .d (.list true 0 []), i64 0, i64 0, i64 0, i64 0, i64 0, i64 0, i64 0, .d (.list true 0 [])], .blk 38 [i64 p1.Def, i64 p1.At, .row 3 (y2).length, i64 p1.Fuel, i64 p1.Mode, i64 p1.Chan, i64 p1.Val, i64 p1.Slot, i64 p1.Until, i64 p1.Since, lv T_api_Alt.enc p1.Alts], .row 3 1 (encL (eInt .i64) y2)]⟩) (by kernel_rfl) ?_
              refine At.skip (fun a w hs => ⟨(p1.At, p1.Slot, 0), h, hs⟩)
  · rintro ⟨x14, x15, x16⟩ h
    replace h : F_offer_Met_J1 p0 p1 p3 y2 x14 x15 x16 = some r := h
    rw [F_offer_Met_J1] at h
    refine At.seq ?_
    refine At.seq ?_
    refine At.region_end [3, 4, 8, 9, 10, 11, 54] [0, 1, 2, 3] _ (st' := ⟨[(3, i64 p3), (4, .ptr 0 0), (8, .ptr 1 0), (9, .ptr 2 0), (10, i64 x14), (11, i64 x15), (54, i64 x16)], [.blk 26 (T_api_Code.pvs p0), .blk 38 [i64 0, i64 0, .d (.list true 0 []), i64 0, i64 0, i64 0, i64 0, i64 0, i64 0, i64 0, .d (.list true 0 [])], .blk 38 [i64 p1.Def, i64 p1.At, .row 3 (y2).length, i64 p1.Fuel, i64 p1.Mode, i64 p1.Chan, i64 p1.Val, i64 p1.Slot, i64 p1.Until, i64 p1.Since, lv T_api_Alt.enc p1.Alts], .row 3 1 (encL (eInt .i64) y2)]⟩) (tips := []) (by kernel_rfl) all0 (norm ?_)
    refine At.block ?_
    refine At.seqJ (S := (List Int)) (fun s => ⟨[(4, .ptr 0 0), (8, .ptr 1 0), (9, .ptr 2 0), (10, i64 x14)], [.blk 26 (T_api_Code.pvs p0), .blk 38 [i64 0, i64 0, .d (.list true 0 []), i64 0, i64 0, i64 0, i64 0, i64 0, i64 0, i64 0, .d (.list true 0 [])], .blk 38 [i64 p1.Def, i64 p1.At, .row 3 (s).length, i64 p1.Fuel, i64 p1.Mode, i64 p1.Chan, i64 p1.Val, i64 p1.Slot, i64 p1.Until, i64 p1.Since, lv T_api_Alt.enc p1.Alts], .row 3 1 (encL (eInt .i64) s)]⟩) (fun s => F_offer_Met_J2 p0 p1 x14 s = some r) ?_ ?_
    · refine At.block ?_
      refine At.seq ?_
      refine At.block ?_
      refine At.seq ?_
      refine At.seq ?_
      refine At.seq ?_
      refine At.region_end [3, 4, 8, 9, 10, 11, 54, 55] [0, 1, 2, 3] _ (st' := ⟨[(3, i64 p3), (4, .ptr 0 0), (8, .ptr 1 0), (9, .ptr 2 0), (10, i64 x14), (11, i64 x15), (54, i64 x16), (55, bo (x16 == 1))], [.blk 26 (T_api_Code.pvs p0), .blk 38 [i64 0, i64 0, .d (.list true 0 []), i64 0, i64 0, i64 0, i64 0, i64 0, i64 0, i64 0, .d (.list true 0 [])], .blk 38 [i64 p1.Def, i64 p1.At, .row 3 (y2).length, i64 p1.Fuel, i64 p1.Mode, i64 p1.Chan, i64 p1.Val, i64 p1.Slot, i64 p1.Until, i64 p1.Since, lv T_api_Alt.enc p1.Alts], .row 3 1 (encL (eInt .i64) y2)]⟩) (tips := []) (by kernel_rfl) all0 (norm ?_)
      refine At.cond (x16 == 1) (by kernel_rfl) (fun b88 => ?_) (fun b88 => ?_)
      · replace h := cond_t b88 h
        refine At.nar [3, 4, 8, 9, 10, 11] [0, 1, 2, 3] (st' := ⟨[(3, i64 p3), (4, .ptr 0 0), (8, .ptr 1 0), (9, .ptr 2 0), (10, i64 x14), (11, i64 x15)], [.blk 26 (T_api_Code.pvs p0), .blk 38 [i64 0, i64 0, .d (.list true 0 []), i64 0, i64 0, i64 0, i64 0, i64 0, i64 0, i64 0, .d (.list true 0 [])], .blk 38 [i64 p1.Def, i64 p1.At, .row 3 (y2).length, i64 p1.Fuel, i64 p1.Mode, i64 p1.Chan, i64 p1.Val, i64 p1.Slot, i64 p1.Until, i64 p1.Since, lv T_api_Alt.enc p1.Alts], .row 3 1 (encL (eInt .i64) y2)]⟩) (by kernel_rfl) ?_
        refine At.exit (norm ?_)
        refine At.seqJ (S := Bool) (fun s => ⟨[(3, i64 p3), (4, .ptr 0 0), (8, .ptr 1 0), (9, .ptr 2 0), (10, i64 x14), (11, i64 x15), (67, bo s)], [.blk 26 (T_api_Code.pvs p0), .blk 38 [i64 0, i64 0, .d (.list true 0 []), i64 0, i64 0, i64 0, i64 0, i64 0, i64 0, i64 0, .d (.list true 0 [])], .blk 38 [i64 p1.Def, i64 p1.At, .row 3 (y2).length, i64 p1.Fuel, i64 p1.Mode, i64 p1.Chan, i64 p1.Val, i64 p1.Slot, i64 p1.Until, i64 p1.Since, lv T_api_Alt.enc p1.Alts], .row 3 1 (encL (eInt .i64) y2)]⟩) (fun s => F_offer_Met_J3 p0 p1 p3 y2 x14 x15 s = some r) ?_ ?_
        · rcases tf (decide (0 ≤ x15)) with b93 | b93
          · replace h := cond_t b93 h
            refine At.region_end [3, 4, 8, 9, 10, 11, 67] [0, 1, 2, 3] _ (st' := ⟨[(3, i64 p3), (4, .ptr 0 0), (8, .ptr 1 0), (9, .ptr 2 0), (10, i64 x14), (11, i64 x15), (67, bo (decide (x15 < ((y2).length : Int))))], [.blk 26 (T_api_Code.pvs p0), .blk 38 [i64 0, i64 0, .d (.list true 0 []), i64 0, i64 0, i64 0, i64 0, i64 0, i64 0, i64 0, .d (.list true 0 [])], .blk 38 [i64 p1.Def, i64 p1.At, .row 3 (y2).length, i64 p1.Fuel, i64 p1.Mode, i64 p1.Chan, i64 p1.Val, i64 p1.Slot, i64 p1.Until, i64 p1.Since, lv T_api_Alt.enc p1.Alts], .row 3 1 (encL (eInt .i64) y2)]⟩) (tips := [(2, { orc := .val (.bool true) })]) (by kernel_rfl) (allc (congrArg D.bool b93) all0) (fun a w hs => ⟨(decide (x15 < ((y2).length : Int))), h, hs⟩)
          · replace h := cond_f b93 h
            refine At.region_end [3, 4, 8, 9, 10, 11, 67] [0, 1, 2, 3] _ (st' := ⟨[(3, i64 p3), (4, .ptr 0 0), (8, .ptr 1 0), (9, .ptr 2 0), (10, i64 x14), (11, i64 x15), (67, bo false)], [.blk 26 (T_api_Code.pvs p0), .blk 38 [i64 0, i64 0, .d (.list true 0 []), i64 0, i64 0, i64 0, i64 0, i64 0, i64 0, i64 0, .d (.list true 0 [])], .blk 38 [i64 p1.Def, i64 p1.At, .row 3 (y2).length, i64 p1.Fuel, i64 p1.Mode, i64 p1.Chan, i64 p1.Val, i64 p1.Slot, i64 p1.Until, i64 p1.Since, lv T_api_Alt.enc p1.Alts], .row 3 1 (encL (eInt .i64) y2)]⟩) (tips := [(2, { orc := .val (.bool false) })]) (by kernel_rfl) (allc (congrArg D.bool b93) all0) (fun a w hs => ⟨false, h, hs⟩)
        · intro x90 h
          replace h : F_offer_Met_J3 p0 p1 p3 y2 x14 x15 x90 = some r := h
          rw [F_offer_Met_J3] at h
          refine At.cond x90 (by kernel_rfl) (fun b91 => ?_) (fun b91 => ?_)
          · replace h := cond_t b91 h
            obtain ⟨g92, h⟩ := grd_some h
            refine At.region_end [4, 8, 9, 10] [0, 1, 2, 3] _ (st' := ⟨[(4, .ptr 0 0), (8, .ptr 1 0), (9, .ptr 2 0), (10, i64 x14)], [.blk 26 (T_api_Code.pvs p0), .blk 38 [i64 0, i64 0, .d (.list true 0 []), i64 0, i64 0, i64 0, i64 0, i64 0, i64 0, i64 0, .d (.list true 0 [])], .blk 38 [i64 p1.Def, i64 p1.At, .row 3 (y2).length, i64 p1.Fuel, i64 p1.Mode, i64 p1.Chan, i64 p1.Val, i64 p1.Slot, i64 p1.Until, i64 p1.Since, lv T_api_Alt.enc p1.Alts], .row 3 1 (encL (eInt .i64) (List.set y2 (Int.toNat x15) p3))]⟩) (tips := [(5, { form := some (0, encL (eInt .i64) (List.set y2 (Int.toNat x15) p3)), obj := 3 })]) (by kernel_rfl) (allc (g92 : Within _ _) (allc ((rSet_ok (he_int .i64) p3 g92).1) (allc ((rSet_ok (he_int .i64) p3 g92).2) all0))) (relen (st2 := ⟨[(4, .ptr 0 0), (8, .ptr 1 0), (9, .ptr 2 0), (10, i64 x14)], [.blk 26 (T_api_Code.pvs p0), .blk 38 [i64 0, i64 0, .d (.list true 0 []), i64 0, i64 0, i64 0, i64 0, i64 0, i64 0, i64 0, .d (.list true 0 [])], .blk 38 [i64 p1.Def, i64 p1.At, .row 3 ((List.set y2 (Int.toNat x15) p3)).length, i64 p1.Fuel, i64 p1.Mode, i64 p1.Chan, i64 p1.Val, i64 p1.Slot, i64 p1.Until, i64 p1.Since, lv T_api_Alt.enc p1.Alts], .row 3 1 (encL (eInt .i64) (List.set y2 (Int.toNat x15) p3))]⟩) (by simp only [List.length_set]) (fun a w hs => ⟨(List.set y2 (Int.toNat x15) p3), h, hs⟩))
          · replace h := cond_f b91 h
            refine At.nar [4, 8, 9, 10] [0, 1, 2, 3] (st' := ⟨[(4, .ptr 0 0), (8, .ptr 1 0), (9, .ptr 2 0), (10, i64 x14)], [.blk 26 (T_api_Code.pvs p0), .blk 38 [i64 0, i64 0, .d (.list true 0 []), i64 0, i64 0, i64 0, i64 0, i64 0, i64 0, i64 0, .d (.list true 0 [])], .blk 38 [i64 p1.Def, i64 p1.At, .row 3 (y2).length, i64 p1.Fuel, i64 p1.Mode, i64 p1.Chan, i64 p1.Val, i64 p1.Slot, i64 p1.Until, i64 p1.Since, lv T_api_Alt.enc p1.Alts], .row 3 1 (encL (eInt .i64) y2)]⟩) (by kernel_rfl) ?_
            refine At.skip (fun a w hs => ⟨y2, h, hs⟩)
      · replace h := cond_f b88 h
        refine At.nar [4, 8, 9, 10, 54] [0, 1, 2, 3] (st' := ⟨[(4, .ptr 0 0), (8, .ptr 1 0), (9, .ptr 2 0), (10, i64 x14), (54, i64 x16)], [.blk 26 (T_api_Code.pvs p0), .blk 38 [i64 0, i64 0, .d (.list true 0 []), i64 0, i64 0, i64 0, i64 0, i64 0, i64 0, i64 0, .d (.list true 0 [])], .blk 38 [i64 p1.Def, i64 p1.At, .row 3 (y2).length, i64 p1.Fuel, i64 p1.Mode, i64 p1.Chan, i64 p1.Val, i64 p1.Slot, i64 p1.Until, i64 p1.Since, lv T_api_Alt.enc p1.Alts], .row 3 1 (encL (eInt .i64) y2)]⟩) (by kernel_rfl) ?_
        refine At.skip (norm ?_)
        refine At.seq ?_
        refine At.region_end [4, 8, 9, 10, 57] [0, 1, 2, 3] _ (st' := ⟨[(4, .ptr 0 0), (8, .ptr 1 0), (9, .ptr 2 0), (10, i64 x14), (57, bo (x16 == 2))], [.blk 26 (T_api_Code.pvs p0), .blk 38 [i64 0, i64 0, .d (.list true 0 []), i64 0, i64 0, i64 0, i64 0, i64 0, i64 0, i64 0, .d (.list true 0 [])], .blk 38 [i64 p1.Def, i64 p1.At, .row 3 (y2).length, i64 p1.Fuel, i64 p1.Mode, i64 p1.Chan, i64 p1.Val, i64 p1.Slot, i64 p1.Until, i64 p1.Since, lv T_api_Alt.enc p1.Alts], .row 3 1 (encL (eInt .i64) y2)]⟩) (tips := []) (by kernel_rfl) all0 (norm ?_)
        refine At.cond (x16 == 2) (by kernel_rfl) (fun b94 => ?_) (fun b94 => ?_)
        · replace h := cond_t b94 h
          refine At.nar [4, 8, 9, 10] [0, 1, 2, 3] (st' := ⟨[(4, .ptr 0 0), (8, .ptr 1 0), (9, .ptr 2 0), (10, i64 x14)], [.blk 26 (T_api_Code.pvs p0), .blk 38 [i64 0, i64 0, .d (.list true 0 []), i64 0, i64 0, i64 0, i64 0, i64 0, i64 0, i64 0, .d (.list true 0 [])], .blk 38 [i64 p1.Def, i64 p1.At, .row 3 (y2).length, i64 p1.Fuel, i64 p1.Mode, i64 p1.Chan, i64 p1.Val, i64 p1.Slot, i64 p1.Until, i64 p1.Since, lv T_api_Alt.enc p1.Alts], .row 3 1 (encL (eInt .i64) y2)]⟩) (by kernel_rfl) ?_
          refine At.exit (fun a w hs => ⟨y2, h, hs⟩)
        · replace h := cond_f b94 h
          refine At.nar [8, 9] [1, 2, 3] (st' := ⟨[(8, .ptr 0 0), (9, .ptr 1 0)], [.blk 38 [i64 0, i64 0, .d (.list true 0 []), i64 0, i64 0, i64 0, i64 0, i64 0, i64 0, i64 0, .d (.list true 0 [])], .blk 38 [i64 p1.Def, i64 p1.At, .row 2 (y2).length, i64 p1.Fuel, i64 p1.Mode, i64 p1.Chan, i64 p1.Val, i64 p1.Slot, i64 p1.Until, i64 p1.Since, lv T_api_Alt.enc p1.Alts], .row 3 1 (encL (eInt .i64) y2)]⟩) (by kernel_rfl) ?_
          refine At.skip (norm ?_)
          refine At.exit (norm ?_)
          refine At.seq ?_
          refine At.region_end [8] [0, 2] _ (st' := ⟨[(8, .ptr 0 0)], [.blk 38 [i64 p1.Def, i64 p1.At, .row 1 (y2).length, i64 p1.Fuel, i64 p1.Mode, i64 p1.Chan, i64 p1.Val, i64 p1.Slot, i64 p1.Until, i64 p1.Since, lv T_api_Alt.enc p1.Alts], .row 3 1 (encL (eInt .i64) y2)]⟩) (tips := []) (by kernel_rfl) all0 (norm ?_)
          refine At.edNar [.settle 1] [8] [0] (st' := ⟨[(8, .ptr 0 0)], [.blk 38 [i64 p1.Def, i64 p1.At, lv (eInt .i64) y2, i64 p1.Fuel, i64 p1.Mode, i64 p1.Chan, i64 p1.Val, i64 p1.Slot, i64 p1.Until, i64 p1.Since, lv T_api_Alt.enc p1.Alts]]⟩) (by kernel_rfl) ?_
          obtain rfl := some_eq h
          exact At.ret fun a w hs => ret_ok hR (ρ := []) (gs := []) (by kernel_rfl) all0 (by kernel_rfl) rfl rfl a w hs _ (.inl rfl)
    · intro x73 h
      replace h : F_offer_Met_J2 p0 p1 x14 x73 = some r := h
      rw [F_offer_Met_J2] at h
      refine At.seq ?_
      refine At.seq ?_
      obtain ⟨y77, hy77, h⟩ := bind_some h
      refine At.region_end [8] [1] _ (st' := ⟨[(8, .ptr 0 0)], [.blk 38 (T_api_Proc.pvs y77)]⟩) (tips := [(3, { settle := [3], pc := some { ρ := [], n0 := 0, res := .agg (T_api_Proc.pvs y77), σ' := [], e := [] } })]) (by kernel_rfl) (allc (C_proc_Goes p0 (⟨p1.Def, p1.At, x73, p1.Fuel, p1.Mode, p1.Chan, p1.Val, p1.Slot, p1.Until, p1.Since, p1.Alts⟩ : T_api_Proc) x14 y77 hy77) all0) (norm ?_)
      obtain rfl := some_eq h
      exact At.ret fun a w hs => ret_ok hR (ρ := []) (gs := []) (by kernel_rfl) all0 (by kernel_rfl) rfl rfl a w hs _ (.inl rfl)
set_option maxRecDepth 100000 in
theorem C_retraceref25_put (p0 : (List Int)) (p1 : Int) (p2 : Int) (r : (List Int)) (h : F_retraceref25_put p0 p1 p2 = some r) : FnOK Try.prog 41 [lv (eInt .i64) p0, i64 p1, i64 p2] [] (.row 0 (r).length) [.row 3 1 (encL (eInt .i64) r)] [] := by
  rw [F_retraceref25_put] at h
  refine FnOK.intro Try.func41 rfl (by kernel_rfl) (by kernel_rfl) fun E gv R hR => ?_
  refine At.seq ?_
  refine At.region_end [0, 1, 2] [] _ (st' := ⟨[(0, lv (eInt .i64) p0), (1, i64 p1), (2, i64 p2)], []⟩) (tips := []) (by kernel_rfl) all0 (norm ?_)
  refine At.seq ?_
  obtain ⟨g2, h⟩ := grd_some h
  refine At.region_end [1, 2, 7] [0] _ (st' := ⟨[(1, i64 p1), (2, i64 p2), (7, .row 0 ((([] : List Int) ++ p0)).length)], [.row 3 1 (encL (eInt .i64) (([] : List Int) ++ p0))]⟩) (tips := [(2, { form := some ((([] : List Int) ++ p0).length, encL (eInt .i64) (([] : List Int) ++ p0)) })]) (by kernel_rfl) (allc (len_app ([] : List Int) p0) (allc (encL_app (eInt .i64) ([] : List Int) p0) (allc (app_ok (he_int .i64) (by decide) g2) (allc (encL_len (he_int .i64) p0) all0)))) (norm ?_)
  refine At.seqJ (S := (List Int)) (fun s => ⟨[(7, .row 0 (s).length)], [.row 3 1 (encL (eInt .i64) s)]⟩) (fun s => F_retraceref25_put_J1 s = some r) ?_ ?_
  · refine At.seqJ (S := Bool) (fun s => ⟨[(1, i64 p1), (2, i64 p2), (7, .row 0 ((([] : List Int) ++ p0)).length), (18, bo s)], [.row 3 1 (encL (eInt .i64) (([] : List Int) ++ p0))]⟩) (fun s => F_retraceref25_put_J2 p0 p1 p2 s = some r) ?_ ?_
    · rcases tf (decide (0 ≤ p1)) with b13 | b13
      · replace h := cond_t b13 h
        refine At.region_end [1, 2, 7, 18] [0] _ (st' := ⟨[(1, i64 p1), (2, i64 p2), (7, .row 0 ((([] : List Int) ++ p0)).length), (18, bo (decide (p1 < (((([] : List Int) ++ p0)).length : Int))))], [.row 3 1 (encL (eInt .i64) (([] : List Int) ++ p0))]⟩) (tips := [(2, { orc := .val (.bool true) })]) (by kernel_rfl) (allc (congrArg D.bool b13) all0) (fun a w hs => ⟨(decide (p1 < (((([] : List Int) ++ p0)).length : Int))), h, hs⟩)
      · replace h := cond_f b13 h
        refine At.region_end [1, 2, 7, 18] [0] _ (st' := ⟨[(1, i64 p1), (2, i64 p2), (7, .row 0 ((([] : List Int) ++ p0)).length), (18, bo false)], [.row 3 1 (encL (eInt .i64) (([] : List Int) ++ p0))]⟩) (tips := [(2, { orc := .val (.bool false) })]) (by kernel_rfl) (allc (congrArg D.bool b13) all0) (fun a w hs => ⟨false, h, hs⟩)
    · intro x10 h
      replace h : F_retraceref25_put_J2 p0 p1 p2 x10 = some r := h
      rw [F_retraceref25_put_J2] at h
      refine At.cond x10 (by kernel_rfl) (fun b11 => ?_) (fun b11 => ?_)
      · replace h := cond_t b11 h
        obtain ⟨g12, h⟩ := grd_some h
        refine At.region_end [7] [0] _ (st' := ⟨[(7, .row 0 ((([] : List Int) ++ p0)).length)], [.row 3 1 (encL (eInt .i64) (List.set (([] : List Int) ++ p0) (Int.toNat p1) p2))]⟩) (tips := [(4, { form := some (0, encL (eInt .i64) (List.set (([] : List Int) ++ p0) (Int.toNat p1) p2)), obj := 0 })]) (by kernel_rfl) (allc (g12 : Within _ _) (allc ((rSet_ok (he_int .i64) p2 g12).1) (allc ((rSet_ok (he_int .i64) p2 g12).2) all0))) (relen (st2 := ⟨[(7, .row 0 ((List.set (([] : List Int) ++ p0) (Int.toNat p1) p2)).length)], [.row 3 1 (encL (eInt .i64) (List.set (([] : List Int) ++ p0) (Int.toNat p1) p2))]⟩) (by simp only [List.length_set]) (fun a w hs => ⟨(List.set (([] : List Int) ++ p0) (Int.toNat p1) p2), h, hs⟩))
      · replace h := cond_f b11 h
        refine At.nar [7] [0] (st' := ⟨[(7, .row 0 ((([] : List Int) ++ p0)).length)], [.row 3 1 (encL (eInt .i64) (([] : List Int) ++ p0))]⟩) (by kernel_rfl) ?_
        refine At.skip (fun a w hs => ⟨(([] : List Int) ++ p0), h, hs⟩)
  · intro x8 h
    replace h : F_retraceref25_put_J1 x8 = some r := h
    rw [F_retraceref25_put_J1] at h
    refine At.seq ?_
    refine At.region_end [6] [0] _ (st' := ⟨[(6, .row 0 (x8).length)], [.row 3 1 (encL (eInt .i64) x8)]⟩) (tips := []) (by kernel_rfl) all0 (norm ?_)
    obtain rfl := some_eq h
    exact At.ret fun a w hs => ret_ok hR (ρ := [0]) (gs := []) (by kernel_rfl) all0 (by kernel_rfl) rfl rfl a w hs _ (.inl rfl)
set_option maxRecDepth 100000 in
theorem C_retraceref22_Goes (p0 : T_api_Code) (p1 : T_api_Proc) (p2 : Int) (r : T_api_Proc) (h : F_retraceref22_Goes p0 p1 p2 = some r) : FnOK Try.prog 42 [.agg (T_api_Code.pvs p0), .agg (T_api_Proc.pvs p1), i64 p2] [] (.agg (T_api_Proc.pvs r)) [] [] := by
  rw [F_retraceref22_Goes] at h
  refine FnOK.intro Try.func42 rfl (by kernel_rfl) (by kernel_rfl) fun E gv R hR => ?_
  refine At.seq ?_
  refine At.region_end [2, 3, 4, 6] [0, 1, 2] _ (st' := ⟨[(2, i64 p2), (3, .ptr 0 0), (4, .ptr 1 0), (6, .ptr 2 0)], [.blk 26 (T_api_Code.pvs p0), .blk 38 (T_api_Proc.pvs p1), .blk 38 [i64 0, i64 0, .d (.list true 0 []), i64 0, i64 0, i64 0, i64 0, i64 0, i64 0, i64 0, .d (.list true 0 [])]]⟩) (tips := []) (by kernel_rfl) all0 (norm ?_)
  refine At.seq ?_
  obtain ⟨g2, h⟩ := grd_some h
  refine At.draw_end mixedOrd 2 [2, 3, 6, 7] [0, 2, 4, 3] _ (st' := ⟨[(2, i64 p2), (3, .ptr 0 0), (6, .ptr 1 0), (7, .ptr 2 0)], [.blk 26 (T_api_Code.pvs p0), .blk 38 [i64 0, i64 0, .d (.list true 0 []), i64 0, i64 0, i64 0, i64 0, i64 0, i64 0, i64 0, .d (.list true 0 [])], .blk 38 [i64 p1.Def, i64 0, .row 3 ((([] : List Int) ++ p1.Vars)).length, i64 p1.Fuel, i64 0, i64 0, i64 0, i64 0, i64 0, i64 0, .d (.list true 0 [])], .row 3 1 (encL (eInt .i64) (([] : List Int) ++ p1.Vars))]⟩) (tips := [(0, { r := 3 }), (1, { T := [1], r := 3 }), (2, { r := 3 }), (3, { r := 4 }), (4, { T := [1], r := 4 }), (5, { tip := { form := some ((([] : List Int) ++ p1.Vars).length, encL (eInt .i64) (([] : List Int) ++ p1.Vars)) }, T := [3], r := 4 }), (6, { r := 4 }), (7, { T := [1], r := 4 }), (8, { r := 4 }), (9, { r := 4 }), (10, { T := [4], r := 5 })]) (by kernel_rfl) (allc (len_app ([] : List Int) p1.Vars) (allc (encL_app (eInt .i64) ([] : List Int) p1.Vars) (allc (app_ok (he_int .i64) (by decide) g2) (allc (encL_len (he_int .i64) p1.Vars) all0)))) (norm ?_)
  refine At.seq ?_
  obtain ⟨y4, hy4, h⟩ := bind_some h
  refine At.region_end [2, 3, 6, 7] [0, 1, 2, 3] _ (st' := ⟨[(2, i64 y4), (3, .ptr 0 0), (6, .ptr 1 0), (7, .ptr 2 0)], [.blk 26 (T_api_Code.pvs p0), .blk 38 [i64 0, i64 0, .d (.list true 0 []), i64 0, i64 0, i64 0, i64 0, i64 0, i64 0, i64 0, .d (.list true 0 [])], .blk 38 [i64 p1.Def, i64 0, .row 3 ((([] : List Int) ++ p1.Vars)).length, i64 p1.Fuel, i64 0, i64 0, i64 0, i64 0, i64 0, i64 0, .d (.list true 0 [])], .row 3 1 (encL (eInt .i64) (([] : List Int) ++ p1.Vars))]⟩) (tips := [(2, { pc := some { ρ := [], n0 := 0, res := i64 y4, σ' := [], e := [] } })]) (by kernel_rfl) (allc (C_retraceref20_Settle p0 p2 y4 hy4) all0) (norm ?_)
  refine At.seq ?_
  refine At.seqJ (S := Bool) (fun s => ⟨[(2, i64 y4), (6, .ptr 0 0), (7, .ptr 1 0), (37, bo s)], [.blk 38 [i64 0, i64 0, .d (.list true 0 []), i64 0, i64 0, i64 0, i64 0, i64 0, i64 0, i64 0, .d (.list true 0 [])], .blk 38 [i64 p1.Def, i64 0, .row 2 ((([] : List Int) ++ p1.Vars)).length, i64 p1.Fuel, i64 0, i64 0, i64 0, i64 0, i64 0, i64 0, .d (.list true 0 [])], .row 3 1 (encL (eInt .i64) (([] : List Int) ++ p1.Vars))]⟩) (fun s => F_retraceref22_Goes_J1 p1 y4 s = some r) ?_ ?_
  · rcases tf (decide (0 ≤ y4)) with b18 | b18
    · replace h := cond_t b18 h
      rcases tf (decide (y4 < ((p0.Ins).length : Int))) with b19 | b19
      · replace h := cond_t b19 h
        obtain ⟨y20, hy20, h⟩ := bind_some h
        refine At.region_end [2, 6, 7, 37] [1, 2, 3] _ (st' := ⟨[(2, i64 y4), (6, .ptr 0 0), (7, .ptr 1 0), (37, bo (y20.Op == 24))], [.blk 38 [i64 0, i64 0, .d (.list true 0 []), i64 0, i64 0, i64 0, i64 0, i64 0, i64 0, i64 0, .d (.list true 0 [])], .blk 38 [i64 p1.Def, i64 0, .row 2 ((([] : List Int) ++ p1.Vars)).length, i64 p1.Fuel, i64 0, i64 0, i64 0, i64 0, i64 0, i64 0, .d (.list true 0 [])], .row 3 1 (encL (eInt .i64) (([] : List Int) ++ p1.Vars))]⟩) (tips := [(2, { orc := .val (.bool true) }), (9, { orc := .val (.bool true) }), (13, { orc := .cells (T_api_Ins.enc y20) })]) (by kernel_rfl) (allc (congrArg D.bool b18) (allc (congrArg D.bool b19) (allc (elemAt_of T_api_Ins.enc_len hy20) all0))) (fun a w hs => ⟨(y20.Op == 24), h, hs⟩)
      · replace h := cond_f b19 h
        refine At.region_end [2, 6, 7, 37] [1, 2, 3] _ (st' := ⟨[(2, i64 y4), (6, .ptr 0 0), (7, .ptr 1 0), (37, bo false)], [.blk 38 [i64 0, i64 0, .d (.list true 0 []), i64 0, i64 0, i64 0, i64 0, i64 0, i64 0, i64 0, .d (.list true 0 [])], .blk 38 [i64 p1.Def, i64 0, .row 2 ((([] : List Int) ++ p1.Vars)).length, i64 p1.Fuel, i64 0, i64 0, i64 0, i64 0, i64 0, i64 0, .d (.list true 0 [])], .row 3 1 (encL (eInt .i64) (([] : List Int) ++ p1.Vars))]⟩) (tips := [(2, { orc := .val (.bool true) }), (9, { orc := .val (.bool false) })]) (by kernel_rfl) (allc (congrArg D.bool b18) (allc (congrArg D.bool b19) all0)) (fun a w hs => ⟨false, h, hs⟩)
    · replace h := cond_f b18 h
      refine At.region_end [2, 6, 7, 37] [1, 2, 3] _ (st' := ⟨[(2, i64 y4), (6, .ptr 0 0), (7, .ptr 1 0), (37, bo false)], [.blk 38 [i64 0, i64 0, .d (.list true 0 []), i64 0, i64 0, i64 0, i64 0, i64 0, i64 0, i64 0, .d (.list true 0 [])], .blk 38 [i64 p1.Def, i64 0, .row 2 ((([] : List Int) ++ p1.Vars)).length, i64 p1.Fuel, i64 0, i64 0, i64 0, i64 0, i64 0, i64 0, .d (.list true 0 [])], .row 3 1 (encL (eInt .i64) (([] : List Int) ++ p1.Vars))]⟩) (tips := [(2, { orc := .val (.bool false) })]) (by kernel_rfl) (allc (congrArg D.bool b18) all0) (fun a w hs => ⟨false, h, hs⟩)
  · intro x16 h
    replace h : F_retraceref22_Goes_J1 p1 y4 x16 = some r := h
    rw [F_retraceref22_Goes_J1] at h
    refine At.cond x16 (by kernel_rfl) (fun b17 => ?_) (fun b17 => ?_)
    · replace h := cond_t b17 h
      refine At.seq ?_
      refine At.region_end [6, 7] [0, 1, 2] _ (st' := ⟨[(6, .ptr 0 0), (7, .ptr 1 0)], [.blk 38 [i64 0, i64 0, .d (.list true 0 []), i64 0, i64 0, i64 0, i64 0, i64 0, i64 0, i64 0, .d (.list true 0 [])], .blk 38 [i64 p1.Def, i64 0, .row 2 ((([] : List Int) ++ p1.Vars)).length, i64 p1.Fuel, i64 5, i64 0, i64 0, i64 0, i64 0, i64 0, .d (.list true 0 [])], .row 3 1 (encL (eInt .i64) (([] : List Int) ++ p1.Vars))]⟩) (tips := []) (by kernel_rfl) all0 (norm ?_)
      refine At.seq ?_
      refine At.region_end [6] [0, 2] _ (st' := ⟨[(6, .ptr 0 0)], [.blk 38 [i64 p1.Def, i64 0, .row 1 ((([] : List Int) ++ p1.Vars)).length, i64 p1.Fuel, i64 5, i64 0, i64 0, i64 0, i64 0, i64 0, .d (.list true 0 [])], .row 3 1 (encL (eInt .i64) (([] : List Int) ++ p1.Vars))]⟩) (tips := []) (by kernel_rfl) all0 (norm ?_)
      refine At.edNar [.settle 1, .loO 0] [6] [0] (st' := ⟨[(6, .ptr 0 0)], [.blk 38 [i64 p1.Def, i64 0, lv (eInt .i64) (([] : List Int) ++ p1.Vars), i64 p1.Fuel, i64 5, i64 0, i64 0, i64 0, i64 0, i64 0, lv T_api_Alt.enc ([] : List T_api_Alt)]]⟩) (by kernel_rfl) ?_
      obtain rfl := some_eq h
      exact At.ret fun a w hs => ret_ok hR (ρ := []) (gs := []) (by kernel_rfl) all0 (by kernel_rfl) rfl rfl a w hs _ (.inl rfl)
    · replace h := cond_f b17 h
      refine At.nar [2, 6, 7] [0, 1, 2] (st' := ⟨[(2, i64 y4), (6, .ptr 0 0), (7, .ptr 1 0)], [.blk 38 [i64 0, i64 0, .d (.list true 0 []), i64 0, i64 0, i64 0, i64 0, i64 0, i64 0, i64 0, .d (.list true 0 [])], .blk 38 [i64 p1.Def, i64 0, .row 2 ((([] : List Int) ++ p1.Vars)).length, i64 p1.Fuel, i64 0, i64 0, i64 0, i64 0, i64 0, i64 0, .d (.list true 0 [])], .row 3 1 (encL (eInt .i64) (([] : List Int) ++ p1.Vars))]⟩) (by kernel_rfl) ?_
      refine At.skip (norm ?_)
      refine At.seq ?_
      refine At.region_end [6, 7] [0, 1, 2] _ (st' := ⟨[(6, .ptr 0 0), (7, .ptr 1 0)], [.blk 38 [i64 0, i64 0, .d (.list true 0 []), i64 0, i64 0, i64 0, i64 0, i64 0, i64 0, i64 0, .d (.list true 0 [])], .blk 38 [i64 p1.Def, i64 y4, .row 2 ((([] : List Int) ++ p1.Vars)).length, i64 p1.Fuel, i64 0, i64 0, i64 0, i64 0, i64 0, i64 0, .d (.list true 0 [])], .row 3 1 (encL (eInt .i64) (([] : List Int) ++ p1.Vars))]⟩) (tips := []) (by kernel_rfl) all0 (norm ?_)
      refine At.seq ?_
      refine At.region_end [6] [0, 2] _ (st' := ⟨[(6, .ptr 0 0)], [.blk 38 [i64 p1.Def, i64 y4, .row 1 ((([] : List Int) ++ p1.Vars)).length, i64 p1.Fuel, i64 0, i64 0, i64 0, i64 0, i64 0, i64 0, .d (.list true 0 [])], .row 3 1 (encL (eInt .i64) (([] : List Int) ++ p1.Vars))]⟩) (tips := []) (by kernel_rfl) all0 (norm ?_)
      refine At.edNar [.settle 1, .loO 0] [6] [0] (st' := ⟨[(6, .ptr 0 0)], [.blk 38 [i64 p1.Def, i64 y4, lv (eInt .i64) (([] : List Int) ++ p1.Vars), i64 p1.Fuel, i64 0, i64 0, i64 0, i64 0, i64 0, i64 0, lv T_api_Alt.enc ([] : List T_api_Alt)]]⟩) (by kernel_rfl) ?_
      obtain rfl := some_eq h
      exact At.ret fun a w hs => ret_ok hR (ρ := []) (gs := []) (by kernel_rfl) all0 (by kernel_rfl) rfl rfl a w hs _ (.inl rfl)
set_option maxRecDepth 100000 in
theorem C_retraceref25_Met (p0 : T_api_Code) (p1 : T_api_Proc) (p2 : Int) (p3 : Int) (r : T_api_Proc) (h : F_retraceref25_Met p0 p1 p2 p3 = some r) : FnOK Try.prog 21 [.agg (T_api_Code.pvs p0), .agg (T_api_Proc.pvs p1), i64 p2, i64 p3] [] (.agg (T_api_Proc.pvs r)) [] [] := by
  rw [F_retraceref25_Met] at h
  refine FnOK.intro Try.func21 rfl (by kernel_rfl) (by kernel_rfl) fun E gv R hR => ?_
  refine At.seq ?_
  refine At.region_end [2, 3, 4, 5, 8] [0, 1, 2] _ (st' := ⟨[(2, i64 p2), (3, i64 p3), (4, .ptr 0 0), (5, .ptr 1 0), (8, .ptr 2 0)], [.blk 26 (T_api_Code.pvs p0), .blk 38 (T_api_Proc.pvs p1), .blk 38 [i64 0, i64 0, .d (.list true 0 []), i64 0, i64 0, i64 0, i64 0, i64 0, i64 0, i64 0, .d (.list true 0 [])]]⟩) (tips := []) (by kernel_rfl) all0 (norm ?_)
  refine At.seq ?_
  refine At.seq ?_
  refine At.region_end [2, 3, 4, 5, 8, 11] [0, 1, 2] _ (st' := ⟨[(2, i64 p2), (3, i64 p3), (4, .ptr 0 0), (5, .ptr 1 0), (8, .ptr 2 0), (11, bo (p2 == (-1)))], [.blk 26 (T_api_Code.pvs p0), .blk 38 (T_api_Proc.pvs p1), .blk 38 [i64 0, i64 0, .d (.list true 0 []), i64 0, i64 0, i64 0, i64 0, i64 0, i64 0, i64 0, .d (.list true 0 [])]]⟩) (tips := []) (by kernel_rfl) all0 (norm ?_)
  refine At.cond (p2 == (-1)) (by kernel_rfl) (fun b19 => ?_) (fun b19 => ?_)
  · replace h := cond_t b19 h
    refine At.seqJ (S := (List Int)) (fun s => ⟨[(4, .ptr 0 0), (5, .ptr 1 0), (8, .ptr 2 0)], [.blk 26 (T_api_Code.pvs p0), .blk 38 [i64 p1.Def, i64 p1.At, lv (eInt .i64) s, i64 p1.Fuel, i64 p1.Mode, i64 p1.Chan, i64 p1.Val, i64 p1.Slot, i64 p1.Until, i64 p1.Since, lv T_api_Alt.enc p1.Alts], .blk 38 [i64 0, i64 0, .d (.list true 0 []), i64 0, i64 0, i64 0, i64 0, i64 0, i64 0, i64 0, .d (.list true 0 [])]]⟩) (fun s => F_retraceref25_Met_J1 p0 p1 s = some r) ?_ ?_
    · refine At.seq ?_
      refine At.region_end [3, 4, 5, 8, 14] [0, 1, 2] _ (st' := ⟨[(3, i64 p3), (4, .ptr 0 0), (5, .ptr 1 0), (8, .ptr 2 0), (14, bo (p1.Mode == 2))], [.blk 26 (T_api_Code.pvs p0), .blk 38 (T_api_Proc.pvs p1), .blk 38 [i64 0, i64 0, .d (.list true 0 []), i64 0, i64 0, i64 0, i64 0, i64 0, i64 0, i64 0, .d (.list true 0 [])]]⟩) (tips := []) (by kernel_rfl) all0 (norm ?_)
      refine At.cond (p1.Mode == 2) (by kernel_rfl) (fun b35 => ?_) (fun b35 => ?_)
      · replace h := cond_t b35 h
        obtain ⟨y36, hy36, h⟩ := bind_some h
        refine At.region_end [4, 5, 8] [0, 1, 3, 2] _ (st' := ⟨[(4, .ptr 0 0), (5, .ptr 1 0), (8, .ptr 3 0)], [.blk 26 (T_api_Code.pvs p0), .blk 38 [i64 p1.Def, i64 p1.At, .row 2 (y36).length, i64 p1.Fuel, i64 p1.Mode, i64 p1.Chan, i64 p1.Val, i64 p1.Slot, i64 p1.Until, i64 p1.Since, lv T_api_Alt.enc p1.Alts], .row 3 1 (encL (eInt .i64) y36), .blk 38 [i64 0, i64 0, .d (.list true 0 []), i64 0, i64 0, i64 0, i64 0, i64 0, i64 0, i64 0, .d (.list true 0 [])]]⟩) (tips := [(5, { pc := some { ρ := [3], n0 := 0, res := .row 0 (y36).length, σ' := [.row 3 1 (encL (eInt .i64) y36)], e := [] } })]) (by kernel_rfl) (allc (C_retraceref25_put p1.Vars p1.Slot p3 y36 hy36) all0) (edq (l := [.settle 2]) (ks := [4, 5, 8]) (ρ := [0, 1, 3]) (st' := ⟨[(4, .ptr 0 0), (5, .ptr 1 0), (8, .ptr 2 0)], [.blk 26 (T_api_Code.pvs p0), .blk 38 [i64 p1.Def, i64 p1.At, lv (eInt .i64) y36, i64 p1.Fuel, i64 p1.Mode, i64 p1.Chan, i64 p1.Val, i64 p1.Slot, i64 p1.Until, i64 p1.Since, lv T_api_Alt.enc p1.Alts], .blk 38 [i64 0, i64 0, .d (.list true 0 []), i64 0, i64 0, i64 0, i64 0, i64 0, i64 0, i64 0, .d (.list true 0 [])]]⟩) (by kernel_rfl) (fun a w hs => ⟨y36, h, hs⟩))
      · replace h := cond_f b35 h
        refine At.nar [4, 5, 8] [0, 1, 2] (st' := ⟨[(4, .ptr 0 0), (5, .ptr 1 0), (8, .ptr 2 0)], [.blk 26 (T_api_Code.pvs p0), .blk 38 (T_api_Proc.pvs p1), .blk 38 [i64 0, i64 0, .d (.list true 0 []), i64 0, i64 0, i64 0, i64 0, i64 0, i64 0, i64 0, .d (.list true 0 [])]]⟩) (by kernel_rfl) ?_
        refine At.skip (fun a w hs => ⟨p1.Vars, h, hs⟩)
    · intro x22 h
      replace h : F_retraceref25_Met_J1 p0 p1 x22 = some r := h
      rw [F_retraceref25_Met_J1] at h
      refine At.seq ?_
      refine At.seqJ (S := Bool) (fun s => ⟨[(4, .ptr 0 0), (5, .ptr 1 0), (8, .ptr 2 0), (29, bo s)], [.blk 26 (T_api_Code.pvs p0), .blk 38 [i64 p1.Def, i64 p1.At, lv (eInt .i64) x22, i64 p1.Fuel, i64 p1.Mode, i64 p1.Chan, i64 p1.Val, i64 p1.Slot, i64 p1.Until, i64 p1.Since, lv T_api_Alt.enc p1.Alts], .blk 38 [i64 0, i64 0, .d (.list true 0 []), i64 0, i64 0, i64 0, i64 0, i64 0, i64 0, i64 0, .d (.list true 0 [])]]⟩) (fun s => F_retraceref25_Met_J2 p0 p1 x22 s = some r) ?_ ?_
      · rcases tf (p1.Mode == 1) with b34 | b34
        · replace h := cond_t b34 h
          refine At.region_end [4, 5, 8, 29] [0, 1, 2] _ (st' := ⟨[(4, .ptr 0 0), (5, .ptr 1 0), (8, .ptr 2 0), (29, bo true)], [.blk 26 (T_api_Code.pvs p0), .blk 38 [i64 p1.Def, i64 p1.At, lv (eInt .i64) x22, i64 p1.Fuel, i64 p1.Mode, i64 p1.Chan, i64 p1.Val, i64 p1.Slot, i64 p1.Until, i64 p1.Since, lv T_api_Alt.enc p1.Alts], .blk 38 [i64 0, i64 0, .d (.list true 0 []), i64 0, i64 0, i64 0, i64 0, i64 0, i64 0, i64 0, .d (.list true 0 [])]]⟩) (tips := [(3, { orc := .val (.bool true) })]) (by kernel_rfl) (allc (congrArg D.bool b34) all0) (fun a w hs => ⟨true, h, hs⟩)
        · replace h := cond_f b34 h
          refine At.region_end [4, 5, 8, 29] [0, 1, 2] _ (st' := ⟨[(4, .ptr 0 0), (5, .ptr 1 0), (8, .ptr 2 0), (29, bo (p1.Mode == 2))], [.blk 26 (T_api_Code.pvs p0), .blk 38 [i64 p1.Def, i64 p1.At, lv (eInt .i64) x22, i64 p1.Fuel, i64 p1.Mode, i64 p1.Chan, i64 p1.Val, i64 p1.Slot, i64 p1.Until, i64 p1.Since, lv T_api_Alt.enc p1.Alts], .blk 38 [i64 0, i64 0, .d (.list true 0 []), i64 0, i64 0, i64 0, i64 0, i64 0, i64 0, i64 0, .d (.list true 0 [])]]⟩) (tips := [(3, { orc := .val (.bool false) })]) (by kernel_rfl) (allc (congrArg D.bool b34) all0) (fun a w hs => ⟨(p1.Mode == 2), h, hs⟩)
      · intro x30 h
        replace h : F_retraceref25_Met_J2 p0 p1 x22 x30 = some r := h
        rw [F_retraceref25_Met_J2] at h
        refine At.cond x30 (by kernel_rfl) (fun b31 => ?_) (fun b31 => ?_)
        · replace h := cond_t b31 h
          refine At.seq ?_
          obtain ⟨y33, hy33, h⟩ := bind_some h
          refine At.region_end [8] [2] _ (st' := ⟨[(8, .ptr 0 0)], [.blk 38 (T_api_Proc.pvs y33)]⟩) (tips := [(4, { pc := some { ρ := [], n0 := 0, res := .agg (T_api_Proc.pvs y33), σ' := [], e := [] } })]) (by kernel_rfl) (allc (C_retraceref22_Goes p0 (⟨p1.Def, p1.At, x22, p1.Fuel, p1.Mode, p1.Chan, p1.Val, p1.Slot, p1.Until, p1.Since, p1.Alts⟩ : T_api_Proc) p1.At y33 hy33) all0) (norm ?_)
          obtain rfl := some_eq h
          exact At.ret fun a w hs => ret_ok hR (ρ := []) (gs := []) (by kernel_rfl) all0 (by kernel_rfl) rfl rfl a w hs _ (.inl rfl)
        · replace h := cond_f b31 h
          refine At.nar [5, 8] [1, 2] (st' := ⟨[(5, .ptr 0 0), (8, .ptr 1 0)], [.blk 38 [i64 p1.Def, i64 p1.At, lv (eInt .i64) x22, i64 p1.Fuel, i64 p1.Mode, i64 p1.Chan, i64 p1.Val, i64 p1.Slot, i64 p1.Until, i64 p1.Since, lv T_api_Alt.enc p1.Alts], .blk 38 [i64 0, i64 0, .d (.list true 0 []), i64 0, i64 0, i64 0, i64 0, i64 0, i64 0, i64 0, .d (.list true 0 [])]]⟩) (by kernel_rfl) ?_
          refine At.skip (norm ?_)
          refine At.seq ?_
          refine At.region_end [8] [1] _ (st' := ⟨[(8, .ptr 0 0)], [.blk 38 [i64 p1.Def, i64 p1.At, lv (eInt .i64) x22, i64 p1.Fuel, i64 p1.Mode, i64 p1.Chan, i64 p1.Val, i64 p1.Slot, i64 p1.Until, i64 p1.Since, lv T_api_Alt.enc p1.Alts]]⟩) (tips := []) (by kernel_rfl) all0 (norm ?_)
          obtain rfl := some_eq h
          exact At.ret fun a w hs => ret_ok hR (ρ := []) (gs := []) (by kernel_rfl) all0 (by kernel_rfl) rfl rfl a w hs _ (.inl rfl)
  · replace h := cond_f b19 h
    refine At.nar [2, 3, 4, 5, 8] [0, 1, 2] (st' := ⟨[(2, i64 p2), (3, i64 p3), (4, .ptr 0 0), (5, .ptr 1 0), (8, .ptr 2 0)], [.blk 26 (T_api_Code.pvs p0), .blk 38 (T_api_Proc.pvs p1), .blk 38 [i64 0, i64 0, .d (.list true 0 []), i64 0, i64 0, i64 0, i64 0, i64 0, i64 0, i64 0, .d (.list true 0 [])]]⟩) (by kernel_rfl) ?_
    refine At.skip (norm ?_)
    refine At.seq ?_
    refine At.seqJ (S := Bool) (fun s => ⟨[(2, i64 p2), (3, i64 p3), (4, .ptr 0 0), (5, .ptr 1 0), (8, .ptr 2 0), (49, bo s)], [.blk 26 (T_api_Code.pvs p0), .blk 38 (T_api_Proc.pvs p1), .blk 38 [i64 0, i64 0, .d (.list true 0 []), i64 0, i64 0, i64 0, i64 0, i64 0, i64 0, i64 0, .d (.list true 0 [])]]⟩) (fun s => F_retraceref25_Met_J3 p0 p1 p2 p3 s = some r) ?_ ?_
    · rcases tf (p1.Mode != 3) with b66 | b66
      · replace h := cond_t b66 h
        refine At.region_end [2, 3, 4, 5, 8, 49] [0, 1, 2] _ (st' := ⟨[(2, i64 p2), (3, i64 p3), (4, .ptr 0 0), (5, .ptr 1 0), (8, .ptr 2 0), (49, bo true)], [.blk 26 (T_api_Code.pvs p0), .blk 38 (T_api_Proc.pvs p1), .blk 38 [i64 0, i64 0, .d (.list true 0 []), i64 0, i64 0, i64 0, i64 0, i64 0, i64 0, i64 0, .d (.list true 0 [])]]⟩) (tips := [(3, { orc := .val (.bool true) })]) (by kernel_rfl) (allc (congrArg D.bool b66) all0) (fun a w hs => ⟨true, h, hs⟩)
      · replace h := cond_f b66 h
        rcases tf (decide (p2 < 0)) with b67 | b67
        · replace h := cond_t b67 h
          refine At.region_end [2, 3, 4, 5, 8, 49] [0, 1, 2] _ (st' := ⟨[(2, i64 p2), (3, i64 p3), (4, .ptr 0 0), (5, .ptr 1 0), (8, .ptr 2 0), (49, bo true)], [.blk 26 (T_api_Code.pvs p0), .blk 38 (T_api_Proc.pvs p1), .blk 38 [i64 0, i64 0, .d (.list true 0 []), i64 0, i64 0, i64 0, i64 0, i64 0, i64 0, i64 0, .d (.list true 0 [])]]⟩) (tips := [(3, { orc := .val (.bool false) }), (7, { orc := .val (.bool true) })]) (by kernel_rfl) (allc (congrArg D.bool b66) (allc (congrArg D.bool b67) all0)) (fun a w hs => ⟨true, h, hs⟩)
        · replace h := cond_f b67 h
          refine At.region_end [2, 3, 4, 5, 8, 49] [0, 1, 2] _ (st' := ⟨[(2, i64 p2), (3, i64 p3), (4, .ptr 0 0), (5, .ptr 1 0), (8, .ptr 2 0), (49, bo (decide (((p1.Alts).length : Int) ≤ p2)))], [.blk 26 (T_api_Code.pvs p0), .blk 38 (T_api_Proc.pvs p1), .blk 38 [i64 0, i64 0, .d (.list true 0 []), i64 0, i64 0, i64 0, i64 0, i64 0, i64 0, i64 0, .d (.list true 0 [])]]⟩) (tips := [(3, { orc := .val (.bool false) }), (7, { orc := .val (.bool false) })]) (by kernel_rfl) (allc (congrArg D.bool b66) (allc (congrArg D.bool b67) all0)) (fun a w hs => ⟨(decide (((p1.Alts).length : Int) ≤ p2)), h, hs⟩)
    · intro x45 h
      replace h : F_retraceref25_Met_J3 p0 p1 p2 p3 x45 = some r := h
      rw [F_retraceref25_Met_J3] at h
      refine At.cond x45 (by kernel_rfl) (fun b46 => ?_) (fun b46 => ?_)
      · replace h := cond_t b46 h
        refine At.seq ?_
        refine At.region_end [8] [2] _ (st' := ⟨[(8, .ptr 0 0)], [.blk 38 (T_api_Proc.pvs p1)]⟩) (tips := []) (by kernel_rfl) all0 (norm ?_)
        obtain rfl := some_eq h
        exact At.ret fun a w hs => ret_ok hR (ρ := []) (gs := []) (by kernel_rfl) all0 (by kernel_rfl) rfl rfl a w hs _ (.inl rfl)
      · replace h := cond_f b46 h
        refine At.nar [2, 3, 4, 5, 8] [0, 1, 2] (st' := ⟨[(2, i64 p2), (3, i64 p3), (4, .ptr 0 0), (5, .ptr 1 0), (8, .ptr 2 0)], [.blk 26 (T_api_Code.pvs p0), .blk 38 (T_api_Proc.pvs p1), .blk 38 [i64 0, i64 0, .d (.list true 0 []), i64 0, i64 0, i64 0, i64 0, i64 0, i64 0, i64 0, .d (.list true 0 [])]]⟩) (by kernel_rfl) ?_
        refine At.skip (norm ?_)
        refine At.seq ?_
        obtain ⟨y48, hy48, h⟩ := bind_some h
        refine At.region_end [3, 4, 5, 8, 9] [0, 1, 2, 3] _ (st' := ⟨[(3, i64 p3), (4, .ptr 0 0), (5, .ptr 1 0), (8, .ptr 2 0), (9, .ptr 3 0)], [.blk 26 (T_api_Code.pvs p0), .blk 38 (T_api_Proc.pvs p1), .blk 38 [i64 0, i64 0, .d (.list true 0 []), i64 0, i64 0, i64 0, i64 0, i64 0, i64 0, i64 0, .d (.list true 0 [])], .blk 51 (T_api_Alt.pvs y48)]⟩) (tips := [(3, { orc := .cells (T_api_Alt.enc y48) })]) (by kernel_rfl) (allc (elemAt_of T_api_Alt.enc_len hy48) all0) (norm ?_)
        refine At.seqJ (S := (List Int)) (fun s => ⟨[(4, .ptr 0 0), (5, .ptr 1 0), (8, .ptr 2 0), (9, .ptr 3 0)], [.blk 26 (T_api_Code.pvs p0), .blk 38 [i64 p1.Def, i64 p1.At, lv (eInt .i64) s, i64 p1.Fuel, i64 p1.Mode, i64 p1.Chan, i64 p1.Val, i64 p1.Slot, i64 p1.Until, i64 p1.Since, lv T_api_Alt.enc p1.Alts], .blk 38 [i64 0, i64 0, .d (.list true 0 []), i64 0, i64 0, i64 0, i64 0, i64 0, i64 0, i64 0, .d (.list true 0 [])], .blk 51 (T_api_Alt.pvs y48)]⟩) (fun s => F_retraceref25_Met_J4 p0 p1 y48 s = some r) ?_ ?_
        · refine At.seq ?_
          refine At.region_end [3, 4, 5, 8, 9, 58] [0, 1, 2, 3] _ (st' := ⟨[(3, i64 p3), (4, .ptr 0 0), (5, .ptr 1 0), (8, .ptr 2 0), (9, .ptr 3 0), (58, bo (y48.Kind == 1))], [.blk 26 (T_api_Code.pvs p0), .blk 38 (T_api_Proc.pvs p1), .blk 38 [i64 0, i64 0, .d (.list true 0 []), i64 0, i64 0, i64 0, i64 0, i64 0, i64 0, i64 0, .d (.list true 0 [])], .blk 51 (T_api_Alt.pvs y48)]⟩) (tips := []) (by kernel_rfl) all0 (norm ?_)
          refine At.cond (y48.Kind == 1) (by kernel_rfl) (fun b64 => ?_) (fun b64 => ?_)
          · replace h := cond_t b64 h
            obtain ⟨y65, hy65, h⟩ := bind_some h
            refine At.region_end [4, 5, 8, 9] [0, 1, 4, 2, 3] _ (st' := ⟨[(4, .ptr 0 0), (5, .ptr 1 0), (8, .ptr 3 0), (9, .ptr 4 0)], [.blk 26 (T_api_Code.pvs p0), .blk 38 [i64 p1.Def, i64 p1.At, .row 2 (y65).length, i64 p1.Fuel, i64 p1.Mode, i64 p1.Chan, i64 p1.Val, i64 p1.Slot, i64 p1.Until, i64 p1.Since, lv T_api_Alt.enc p1.Alts], .row 3 1 (encL (eInt .i64) y65), .blk 38 [i64 0, i64 0, .d (.list true 0 []), i64 0, i64 0, i64 0, i64 0, i64 0, i64 0, i64 0, .d (.list true 0 [])], .blk 51 (T_api_Alt.pvs y48)]⟩) (tips := [(5, { pc := some { ρ := [4], n0 := 0, res := .row 0 (y65).length, σ' := [.row 3 1 (encL (eInt .i64) y65)], e := [] } })]) (by kernel_rfl) (allc (C_retraceref25_put p1.Vars y48.Slot p3 y65 hy65) all0) (edq (l := [.settle 2]) (ks := [4, 5, 8, 9]) (ρ := [0, 1, 3, 4]) (st' := ⟨[(4, .ptr 0 0), (5, .ptr 1 0), (8, .ptr 2 0), (9, .ptr 3 0)], [.blk 26 (T_api_Code.pvs p0), .blk 38 [i64 p1.Def, i64 p1.At, lv (eInt .i64) y65, i64 p1.Fuel, i64 p1.Mode, i64 p1.Chan, i64 p1.Val, i64 p1.Slot, i64 p1.Until, i64 p1.Since, lv T_api_Alt.enc p1.Alts], .blk 38 [i64 0, i64 0, .d (.list true 0 []), i64 0, i64 0, i64 0, i64 0, i64 0, i64 0, i64 0, .d (.list true 0 [])], .blk 51 (T_api_Alt.pvs y48)]⟩) (by kernel_rfl) (fun a w hs => ⟨y65, h, hs⟩))
          · replace h := cond_f b64 h
            refine At.nar [4, 5, 8, 9] [0, 1, 2, 3] (st' := ⟨[(4, .ptr 0 0), (5, .ptr 1 0), (8, .ptr 2 0), (9, .ptr 3 0)], [.blk 26 (T_api_Code.pvs p0), .blk 38 (T_api_Proc.pvs p1), .blk 38 [i64 0, i64 0, .d (.list true 0 []), i64 0, i64 0, i64 0, i64 0, i64 0, i64 0, i64 0, .d (.list true 0 [])], .blk 51 (T_api_Alt.pvs y48)]⟩) (by kernel_rfl) ?_
            refine At.skip (fun a w hs => ⟨p1.Vars, h, hs⟩)
        · intro x51 h
          replace h : F_retraceref25_Met_J4 p0 p1 y48 x51 = some r := h
          rw [F_retraceref25_Met_J4] at h
          refine At.seq ?_
          refine At.seqJ (S := Bool) (fun s => ⟨[(4, .ptr 0 0), (5, .ptr 1 0), (8, .ptr 2 0), (9, .ptr 3 0), (73, bo s)], [.blk 26 (T_api_Code.pvs p0), .blk 38 [i64 p1.Def, i64 p1.At, lv (eInt .i64) x51, i64 p1.Fuel, i64 p1.Mode, i64 p1.Chan, i64 p1.Val, i64 p1.Slot, i64 p1.Until, i64 p1.Since, lv T_api_Alt.enc p1.Alts], .blk 38 [i64 0, i64 0, .d (.list true 0 []), i64 0, i64 0, i64 0, i64 0, i64 0, i64 0, i64 0, .d (.list true 0 [])], .blk 51 (T_api_Alt.pvs y48)]⟩) (fun s => F_retraceref25_Met_J5 p0 p1 y48 x51 s = some r) ?_ ?_
          · rcases tf (y48.Kind == 2) with b63 | b63
            · replace h := cond_t b63 h
              refine At.region_end [4, 5, 8, 9, 73] [0, 1, 2, 3] _ (st' := ⟨[(4, .ptr 0 0), (5, .ptr 1 0), (8, .ptr 2 0), (9, .ptr 3 0), (73, bo true)], [.blk 26 (T_api_Code.pvs p0), .blk 38 [i64 p1.Def, i64 p1.At, lv (eInt .i64) x51, i64 p1.Fuel, i64 p1.Mode, i64 p1.Chan, i64 p1.Val, i64 p1.Slot, i64 p1.Until, i64 p1.Since, lv T_api_Alt.enc p1.Alts], .blk 38 [i64 0, i64 0, .d (.list true 0 []), i64 0, i64 0, i64 0, i64 0, i64 0, i64 0, i64 0, .d (.list true 0 [])], .blk 51 (T_api_Alt.pvs y48)]⟩) (tips := [(3, { orc := .val (.bool true) })]) (by kernel_rfl) (allc (congrArg D.bool b63) all0) (fun a w hs => ⟨true, h, hs⟩)
            · replace h := cond_f b63 h
              refine At.region_end [4, 5, 8, 9, 73] [0, 1, 2, 3] _ (st' := ⟨[(4, .ptr 0 0), (5, .ptr 1 0), (8, .ptr 2 0), (9, .ptr 3 0), (73, bo (y48.Kind == 1))], [.blk 26 (T_api_Code.pvs p0), .blk 38 [i64 p1.Def, i64 p1.At, lv (eInt .i64) x51, i64 p1.Fuel, i64 p1.Mode, i64 p1.Chan, i64 p1.Val, i64 p1.Slot, i64 p1.Until, i64 p1.Since, lv T_api_Alt.enc p1.Alts], .blk 38 [i64 0, i64 0, .d (.list true 0 []), i64 0, i64 0, i64 0, i64 0, i64 0, i64 0, i64 0, .d (.list true 0 [])], .blk 51 (T_api_Alt.pvs y48)]⟩) (tips := [(3, { orc := .val (.bool false) })]) (by kernel_rfl) (allc (congrArg D.bool b63) all0) (fun a w hs => ⟨(y48.Kind == 1), h, hs⟩)
          · intro x59 h
            replace h : F_retraceref25_Met_J5 p0 p1 y48 x51 x59 = some r := h
            rw [F_retraceref25_Met_J5] at h
            refine At.cond x59 (by kernel_rfl) (fun b60 => ?_) (fun b60 => ?_)
            · replace h := cond_t b60 h
              refine At.seq ?_
              obtain ⟨y62, hy62, h⟩ := bind_some h
              refine At.region_end [8] [2] _ (st' := ⟨[(8, .ptr 0 0)], [.blk 38 (T_api_Proc.pvs y62)]⟩) (tips := [(4, { pc := some { ρ := [], n0 := 0, res := .agg (T_api_Proc.pvs y62), σ' := [], e := [] } })]) (by kernel_rfl) (allc (C_retraceref22_Goes p0 (⟨p1.Def, p1.At, x51, p1.Fuel, p1.Mode, p1.Chan, p1.Val, p1.Slot, p1.Until, p1.Since, p1.Alts⟩ : T_api_Proc) y48.Goto y62 hy62) all0) (norm ?_)
              obtain rfl := some_eq h
              exact At.ret fun a w hs => ret_ok hR (ρ := []) (gs := []) (by kernel_rfl) all0 (by kernel_rfl) rfl rfl a w hs _ (.inl rfl)
            · replace h := cond_f b60 h
              refine At.nar [5, 8] [1, 2] (st' := ⟨[(5, .ptr 0 0), (8, .ptr 1 0)], [.blk 38 [i64 p1.Def, i64 p1.At, lv (eInt .i64) x51, i64 p1.Fuel, i64 p1.Mode, i64 p1.Chan, i64 p1.Val, i64 p1.Slot, i64 p1.Until, i64 p1.Since, lv T_api_Alt.enc p1.Alts], .blk 38 [i64 0, i64 0, .d (.list true 0 []), i64 0, i64 0, i64 0, i64 0, i64 0, i64 0, i64 0, .d (.list true 0 [])]]⟩) (by kernel_rfl) ?_
              refine At.skip (norm ?_)
              refine At.seq ?_
              refine At.region_end [8] [1] _ (st' := ⟨[(8, .ptr 0 0)], [.blk 38 [i64 p1.Def, i64 p1.At, lv (eInt .i64) x51, i64 p1.Fuel, i64 p1.Mode, i64 p1.Chan, i64 p1.Val, i64 p1.Slot, i64 p1.Until, i64 p1.Since, lv T_api_Alt.enc p1.Alts]]⟩) (tips := []) (by kernel_rfl) all0 (norm ?_)
              obtain rfl := some_eq h
              exact At.ret fun a w hs => ret_ok hR (ρ := []) (gs := []) (by kernel_rfl) all0 (by kernel_rfl) rfl rfl a w hs _ (.inl rfl)
set_option maxRecDepth 100000 in
theorem C_retraceref03_Same (p0 : (List Int)) (p1 : (List Int)) (r : Bool) (h : F_retraceref03_Same p0 p1 = some r) : FnOK Try.prog 39 [lv (eInt .i64) p0, lv (eInt .i64) p1] [] (bo r) [] [] := by
  rw [F_retraceref03_Same] at h
  refine FnOK.intro Try.func39 rfl (by kernel_rfl) (by kernel_rfl) fun E gv R hR => ?_
  refine At.seq ?_
  refine At.region_end [0, 1] [] _ (st' := ⟨[(0, lv (eInt .i64) p0), (1, lv (eInt .i64) p1)], []⟩) (tips := []) (by kernel_rfl) all0 (norm ?_)
  refine At.seq ?_
  refine At.seq ?_
  refine At.region_end [0, 1, 10] [] _ (st' := ⟨[(0, lv (eInt .i64) p0), (1, lv (eInt .i64) p1), (10, bo (((p0).length : Int) != ((p1).length : Int)))], []⟩) (tips := []) (by kernel_rfl) all0 (norm ?_)
  refine At.cond (((p0).length : Int) != ((p1).length : Int)) (by kernel_rfl) (fun b2 => ?_) (fun b2 => ?_)
  · replace h := cond_t b2 h
    refine At.seq ?_
    refine At.region_end [4] [] _ (st' := ⟨[(4, bo false)], []⟩) (tips := []) (by kernel_rfl) all0 (norm ?_)
    obtain rfl := some_eq h
    exact At.ret fun a w hs => ret_ok hR (ρ := []) (gs := []) (by kernel_rfl) all0 (by kernel_rfl) rfl rfl a w hs _ (.inl rfl)
  · replace h := cond_f b2 h
    refine At.nar [0, 1] [] (st' := ⟨[(0, lv (eInt .i64) p0), (1, lv (eInt .i64) p1)], []⟩) (by kernel_rfl) ?_
    refine At.skip (norm ?_)
    refine At.seq ?_
    refine At.seq ?_
    refine At.region_end [0, 1, 5] [] _ (st' := ⟨[(0, lv (eInt .i64) p0), (1, lv (eInt .i64) p1), (5, i64 0)], []⟩) (tips := []) (by kernel_rfl) all0 (norm ?_)
    refine At.block ?_
    refine At.loop (fun s : (Int) => F_retraceref03_Same_L1 p0 p1 s) (fun s : (Int) => ⟨[(0, lv (eInt .i64) p0), (1, lv (eInt .i64) p1), (5, i64 s)], []⟩) r 0 h ?_
    intro x22 oo23 h f24
    replace h : F_retraceref03_Same_L1 p0 p1 x22 = some oo23 := h
    rw [F_retraceref03_Same_L1] at h
    refine At.seq ?_
    refine At.seq ?_
    refine At.region_end [0, 1, 5, 14] [] _ (st' := ⟨[(0, lv (eInt .i64) p0), (1, lv (eInt .i64) p1), (5, i64 x22), (14, bo (decide (x22 < ((p0).length : Int))))], []⟩) (tips := []) (by kernel_rfl) all0 (norm ?_)
    refine At.cond (decide (x22 < ((p0).length : Int))) (by kernel_rfl) (fun b26 => ?_) (fun b26 => ?_)
    · replace h := cond_t b26 h
      refine At.nar [0, 1, 5] [] (st' := ⟨[(0, lv (eInt .i64) p0), (1, lv (eInt .i64) p1), (5, i64 x22)], []⟩) (by kernel_rfl) ?_
      refine At.skip (norm ?_)
      refine At.seq ?_
      refine At.block ?_
      refine At.seq ?_
      obtain ⟨y34, hy34, h⟩ := bind_some h
      obtain ⟨y35, hy35, h⟩ := bind_some h
      refine At.draw_end mixedOrd 0 [0, 1, 5, 25] [] _ (st' := ⟨[(0, lv (eInt .i64) p0), (1, lv (eInt .i64) p1), (5, i64 x22), (25, bo (y34 != y35))], []⟩) (tips := [(2, { tip := { orc := .cells ((eInt .i64) y34) } }), (6, { tip := { orc := .cells ((eInt .i64) y35) } })]) (by kernel_rfl) (allc (elemAt_of (he_int .i64) hy34) (allc (elemAt_of (he_int .i64) hy35) all0)) (norm ?_)
      refine At.cond (y34 != y35) (by kernel_rfl) (fun b36 => ?_) (fun b36 => ?_)
      · replace h := cond_t b36 h
        refine At.seq ?_
        refine At.region_end [4] [] _ (st' := ⟨[(4, bo false)], []⟩) (tips := []) (by kernel_rfl) all0 (norm ?_)
        obtain ⟨r37, h, e38⟩ := map_inr h
        rw [f24 _ e38] at h
        obtain rfl := some_eq h
        exact At.ret fun a w hs => ret_ok hR (ρ := []) (gs := []) (by kernel_rfl) all0 (by kernel_rfl) rfl rfl a w hs _ (.inl rfl)
      · replace h := cond_f b36 h
        refine At.nar [0, 1, 5] [] (st' := ⟨[(0, lv (eInt .i64) p0), (1, lv (eInt .i64) p1), (5, i64 x22)], []⟩) (by kernel_rfl) ?_
        refine At.skip (norm ?_)
        refine At.region_end [0, 1, 5] [] _ (st' := ⟨[(0, lv (eInt .i64) p0), (1, lv (eInt .i64) p1), (5, i64 (w64 (x22 + 1)))], []⟩) (tips := []) (by kernel_rfl) all0 (fun a w hs => ⟨_, (some_eq h).symm, hs⟩)
    · replace h := cond_f b26 h
      refine At.nar [] [] (st' := ⟨[], []⟩) (by kernel_rfl) ?_
      obtain ⟨r39, h, e40⟩ := map_inr h
      rw [f24 _ e40] at h
      refine At.exit (norm ?_)
      refine At.seq ?_
      refine At.region_end [4] [] _ (st' := ⟨[(4, bo true)], []⟩) (tips := []) (by kernel_rfl) all0 (norm ?_)
      obtain rfl := some_eq h
      exact At.ret fun a w hs => ret_ok hR (ρ := []) (gs := []) (by kernel_rfl) all0 (by kernel_rfl) rfl rfl a w hs _ (.inl rfl)
set_option maxRecDepth 100000 in
theorem C_retraceref22_Alts (p0 : (List T_api_Alt)) (p1 : (List T_api_Alt)) (r : Bool) (h : F_retraceref22_Alts p0 p1 = some r) : FnOK Try.prog 40 [lv T_api_Alt.enc p0, lv T_api_Alt.enc p1] [] (bo r) [] [] := by
  rw [F_retraceref22_Alts] at h
  refine FnOK.intro Try.func40 rfl (by kernel_rfl) (by kernel_rfl) fun E gv R hR => ?_
  refine At.seq ?_
  refine At.region_end [0, 1] [] _ (st' := ⟨[(0, lv T_api_Alt.enc p0), (1, lv T_api_Alt.enc p1)], []⟩) (tips := []) (by kernel_rfl) all0 (norm ?_)
  refine At.seq ?_
  refine At.seq ?_
  refine At.region_end [0, 1, 10] [] _ (st' := ⟨[(0, lv T_api_Alt.enc p0), (1, lv T_api_Alt.enc p1), (10, bo (((p0).length : Int) != ((p1).length : Int)))], []⟩) (tips := []) (by kernel_rfl) all0 (norm ?_)
  refine At.cond (((p0).length : Int) != ((p1).length : Int)) (by kernel_rfl) (fun b2 => ?_) (fun b2 => ?_)
  · replace h := cond_t b2 h
    refine At.seq ?_
    refine At.region_end [4] [] _ (st' := ⟨[(4, bo false)], []⟩) (tips := []) (by kernel_rfl) all0 (norm ?_)
    obtain rfl := some_eq h
    exact At.ret fun a w hs => ret_ok hR (ρ := []) (gs := []) (by kernel_rfl) all0 (by kernel_rfl) rfl rfl a w hs _ (.inl rfl)
  · replace h := cond_f b2 h
    refine At.nar [0, 1] [] (st' := ⟨[(0, lv T_api_Alt.enc p0), (1, lv T_api_Alt.enc p1)], []⟩) (by kernel_rfl) ?_
    refine At.skip (norm ?_)
    refine At.seq ?_
    refine At.seq ?_
    refine At.region_end [0, 1, 5] [] _ (st' := ⟨[(0, lv T_api_Alt.enc p0), (1, lv T_api_Alt.enc p1), (5, i64 0)], []⟩) (tips := []) (by kernel_rfl) all0 (norm ?_)
    refine At.block ?_
    refine At.loop (fun s : (Int) => F_retraceref22_Alts_L1 p0 p1 s) (fun s : (Int) => ⟨[(0, lv T_api_Alt.enc p0), (1, lv T_api_Alt.enc p1), (5, i64 s)], []⟩) r 0 h ?_
    intro x22 oo23 h f24
    replace h : F_retraceref22_Alts_L1 p0 p1 x22 = some oo23 := h
    rw [F_retraceref22_Alts_L1] at h
    refine At.seq ?_
    refine At.seq ?_
    refine At.region_end [0, 1, 5, 14] [] _ (st' := ⟨[(0, lv T_api_Alt.enc p0), (1, lv T_api_Alt.enc p1), (5, i64 x22), (14, bo (decide (x22 < ((p0).length : Int))))], []⟩) (tips := []) (by kernel_rfl) all0 (norm ?_)
    refine At.cond (decide (x22 < ((p0).length : Int))) (by kernel_rfl) (fun b26 => ?_) (fun b26 => ?_)
    · replace h := cond_t b26 h
      refine At.nar [0, 1, 5] [] (st' := ⟨[(0, lv T_api_Alt.enc p0), (1, lv T_api_Alt.enc p1), (5, i64 x22)], []⟩) (by kernel_rfl) ?_
      refine At.skip (norm ?_)
      refine At.seq ?_
      refine At.block ?_
      refine At.seq ?_
      obtain ⟨y34, hy34, h⟩ := bind_some h
      obtain ⟨y35, hy35, h⟩ := bind_some h
      refine At.draw_end mixedOrd 0 [0, 1, 5, 25] [] _ (st' := ⟨[(0, lv T_api_Alt.enc p0), (1, lv T_api_Alt.enc p1), (5, i64 x22), (25, bo (!((y34.Kind == y35.Kind) && ((y34.Chan == y35.Chan) && ((y34.Val == y35.Val) && ((y34.Slot == y35.Slot) && ((y34.Goto == y35.Goto) && true)))))))], []⟩) (tips := [(2, { tip := { orc := .cells (T_api_Alt.enc y34) } }), (6, { tip := { orc := .cells (T_api_Alt.enc y35) } })]) (by kernel_rfl) (allc (elemAt_of T_api_Alt.enc_len hy34) (allc (elemAt_of T_api_Alt.enc_len hy35) all0)) (norm ?_)
      refine At.cond (!((y34.Kind == y35.Kind) && ((y34.Chan == y35.Chan) && ((y34.Val == y35.Val) && ((y34.Slot == y35.Slot) && ((y34.Goto == y35.Goto) && true)))))) (by kernel_rfl) (fun b36 => ?_) (fun b36 => ?_)
      · replace h := cond_t b36 h
        refine At.seq ?_
        refine At.region_end [4] [] _ (st' := ⟨[(4, bo false)], []⟩) (tips := []) (by kernel_rfl) all0 (norm ?_)
        obtain ⟨r37, h, e38⟩ := map_inr h
        rw [f24 _ e38] at h
        obtain rfl := some_eq h
        exact At.ret fun a w hs => ret_ok hR (ρ := []) (gs := []) (by kernel_rfl) all0 (by kernel_rfl) rfl rfl a w hs _ (.inl rfl)
      · replace h := cond_f b36 h
        refine At.nar [0, 1, 5] [] (st' := ⟨[(0, lv T_api_Alt.enc p0), (1, lv T_api_Alt.enc p1), (5, i64 x22)], []⟩) (by kernel_rfl) ?_
        refine At.skip (norm ?_)
        refine At.region_end [0, 1, 5] [] _ (st' := ⟨[(0, lv T_api_Alt.enc p0), (1, lv T_api_Alt.enc p1), (5, i64 (w64 (x22 + 1)))], []⟩) (tips := []) (by kernel_rfl) all0 (fun a w hs => ⟨_, (some_eq h).symm, hs⟩)
    · replace h := cond_f b26 h
      refine At.nar [] [] (st' := ⟨[], []⟩) (by kernel_rfl) ?_
      obtain ⟨r39, h, e40⟩ := map_inr h
      rw [f24 _ e40] at h
      refine At.exit (norm ?_)
      refine At.seq ?_
      refine At.region_end [4] [] _ (st' := ⟨[(4, bo true)], []⟩) (tips := []) (by kernel_rfl) all0 (norm ?_)
      obtain rfl := some_eq h
      exact At.ret fun a w hs => ret_ok hR (ρ := []) (gs := []) (by kernel_rfl) all0 (by kernel_rfl) rfl rfl a w hs _ (.inl rfl)
set_option maxRecDepth 100000 in
theorem C_retraceref22_Same (p0 : T_api_Proc) (p1 : T_api_Proc) (r : Bool) (h : F_retraceref22_Same p0 p1 = some r) : FnOK Try.prog 20 [.agg (T_api_Proc.pvs p0), .agg (T_api_Proc.pvs p1)] [] (bo r) [] [] := by
  rw [F_retraceref22_Same] at h
  refine FnOK.intro Try.func20 rfl (by kernel_rfl) (by kernel_rfl) fun E gv R hR => ?_
  refine At.seq ?_
  refine At.region_end [2, 3] [0, 1] _ (st' := ⟨[(2, .ptr 0 0), (3, .ptr 1 0)], [.blk 38 (T_api_Proc.pvs p0), .blk 38 (T_api_Proc.pvs p1)]⟩) (tips := []) (by kernel_rfl) all0 (norm ?_)
  refine At.seq ?_
  refine At.seqJ (S := Bool) (fun s => ⟨[(2, .ptr 0 0), (3, .ptr 1 0), (44, bo s)], [.blk 38 (T_api_Proc.pvs p0), .blk 38 (T_api_Proc.pvs p1)]⟩) (fun s => F_retraceref22_Same_J1 p0 p1 s = some r) ?_ ?_
  · rcases tf (p0.Def != p1.Def) with b33 | b33
    · replace h := cond_t b33 h
      refine At.region_end [2, 3, 44] [0, 1] _ (st' := ⟨[(2, .ptr 0 0), (3, .ptr 1 0), (44, bo true)], [.blk 38 (T_api_Proc.pvs p0), .blk 38 (T_api_Proc.pvs p1)]⟩) (tips := [(5, { orc := .val (.bool true) })]) (by kernel_rfl) (allc (congrArg D.bool b33) all0) (fun a w hs => ⟨true, h, hs⟩)
    · replace h := cond_f b33 h
      rcases tf (p0.At != p1.At) with b34 | b34
      · replace h := cond_t b34 h
        refine At.region_end [2, 3, 44] [0, 1] _ (st' := ⟨[(2, .ptr 0 0), (3, .ptr 1 0), (44, bo true)], [.blk 38 (T_api_Proc.pvs p0), .blk 38 (T_api_Proc.pvs p1)]⟩) (tips := [(5, { orc := .val (.bool false) }), (12, { orc := .val (.bool true) })]) (by kernel_rfl) (allc (congrArg D.bool b33) (allc (congrArg D.bool b34) all0)) (fun a w hs => ⟨true, h, hs⟩)
      · replace h := cond_f b34 h
        rcases tf (p0.Fuel != p1.Fuel) with b35 | b35
        · replace h := cond_t b35 h
          refine At.region_end [2, 3, 44] [0, 1] _ (st' := ⟨[(2, .ptr 0 0), (3, .ptr 1 0), (44, bo true)], [.blk 38 (T_api_Proc.pvs p0), .blk 38 (T_api_Proc.pvs p1)]⟩) (tips := [(5, { orc := .val (.bool false) }), (12, { orc := .val (.bool false) }), (19, { orc := .val (.bool true) })]) (by kernel_rfl) (allc (congrArg D.bool b33) (allc (congrArg D.bool b34) (allc (congrArg D.bool b35) all0))) (fun a w hs => ⟨true, h, hs⟩)
        · replace h := cond_f b35 h
          rcases tf (p0.Mode != p1.Mode) with b36 | b36
          · replace h := cond_t b36 h
            refine At.region_end [2, 3, 44] [0, 1] _ (st' := ⟨[(2, .ptr 0 0), (3, .ptr 1 0), (44, bo true)], [.blk 38 (T_api_Proc.pvs p0), .blk 38 (T_api_Proc.pvs p1)]⟩) (tips := [(5, { orc := .val (.bool false) }), (12, { orc := .val (.bool false) }), (19, { orc := .val (.bool false) }), (26, { orc := .val (.bool true) })]) (by kernel_rfl) (allc (congrArg D.bool b33) (allc (congrArg D.bool b34) (allc (congrArg D.bool b35) (allc (congrArg D.bool b36) all0)))) (fun a w hs => ⟨true, h, hs⟩)
          · replace h := cond_f b36 h
            rcases tf (p0.Chan != p1.Chan) with b37 | b37
            · replace h := cond_t b37 h
              refine At.region_end [2, 3, 44] [0, 1] _ (st' := ⟨[(2, .ptr 0 0), (3, .ptr 1 0), (44, bo true)], [.blk 38 (T_api_Proc.pvs p0), .blk 38 (T_api_Proc.pvs p1)]⟩) (tips := [(5, { orc := .val (.bool false) }), (12, { orc := .val (.bool false) }), (19, { orc := .val (.bool false) }), (26, { orc := .val (.bool false) }), (33, { orc := .val (.bool true) })]) (by kernel_rfl) (allc (congrArg D.bool b33) (allc (congrArg D.bool b34) (allc (congrArg D.bool b35) (allc (congrArg D.bool b36) (allc (congrArg D.bool b37) all0))))) (fun a w hs => ⟨true, h, hs⟩)
            · replace h := cond_f b37 h
              refine At.region_end [2, 3, 44] [0, 1] _ (st' := ⟨[(2, .ptr 0 0), (3, .ptr 1 0), (44, bo (p0.Val != p1.Val))], [.blk 38 (T_api_Proc.pvs p0), .blk 38 (T_api_Proc.pvs p1)]⟩) (tips := [(5, { orc := .val (.bool false) }), (12, { orc := .val (.bool false) }), (19, { orc := .val (.bool false) }), (26, { orc := .val (.bool false) }), (33, { orc := .val (.bool false) })]) (by kernel_rfl) (allc (congrArg D.bool b33) (allc (congrArg D.bool b34) (allc (congrArg D.bool b35) (allc (congrArg D.bool b36) (allc (congrArg D.bool b37) all0))))) (fun a w hs => ⟨(p0.Val != p1.Val), h, hs⟩)
  · intro x18 h
    replace h : F_retraceref22_Same_J1 p0 p1 x18 = some r := h
    rw [F_retraceref22_Same_J1] at h
    refine At.cond x18 (by kernel_rfl) (fun b19 => ?_) (fun b19 => ?_)
    · replace h := cond_t b19 h
      refine At.seq ?_
      refine At.region_end [4] [] _ (st' := ⟨[(4, bo false)], []⟩) (tips := []) (by kernel_rfl) all0 (norm ?_)
      obtain rfl := some_eq h
      exact At.ret fun a w hs => ret_ok hR (ρ := []) (gs := []) (by kernel_rfl) all0 (by kernel_rfl) rfl rfl a w hs _ (.inl rfl)
    · replace h := cond_f b19 h
      refine At.nar [2, 3] [0, 1] (st' := ⟨[(2, .ptr 0 0), (3, .ptr 1 0)], [.blk 38 (T_api_Proc.pvs p0), .blk 38 (T_api_Proc.pvs p1)]⟩) (by kernel_rfl) ?_
      refine At.skip (norm ?_)
      refine At.seqJ (S := Bool) (fun s => ⟨[(4, bo s)], []⟩) (fun s => F_retraceref22_Same_J2 s = some r) ?_ ?_
      · rcases tf (p0.Slot == p1.Slot) with b27 | b27
        · replace h := cond_t b27 h
          rcases tf (p0.Until == p1.Until) with b28 | b28
          · replace h := cond_t b28 h
            rcases tf (p0.Since == p1.Since) with b29 | b29
            · replace h := cond_t b29 h
              obtain ⟨y30, hy30, h⟩ := bind_some h
              rcases tf y30 with b31 | b31
              · replace h := cond_t b31 h
                obtain ⟨y32, hy32, h⟩ := bind_some h
                refine At.region_end [4] [] _ (st' := ⟨[(4, bo y32)], []⟩) (tips := [(5, { orc := .val (.bool true) }), (12, { orc := .val (.bool true) }), (19, { orc := .val (.bool true) }), (24, { pc := some { ρ := [], n0 := 0, res := bo y30, σ' := [], e := [] } }), (26, { orc := .val (.bool true) }), (31, { pc := some { ρ := [], n0 := 0, res := bo y32, σ' := [], e := [] } })]) (by kernel_rfl) (allc (congrArg D.bool b27) (allc (congrArg D.bool b28) (allc (congrArg D.bool b29) (allc (C_retraceref03_Same p0.Vars p1.Vars y30 hy30) (allc (congrArg D.bool b31) (allc (C_retraceref22_Alts p0.Alts p1.Alts y32 hy32) all0)))))) (fun a w hs => ⟨y32, h, hs⟩)
              · replace h := cond_f b31 h
                refine At.region_end [4] [] _ (st' := ⟨[(4, bo false)], []⟩) (tips := [(5, { orc := .val (.bool true) }), (12, { orc := .val (.bool true) }), (19, { orc := .val (.bool true) }), (24, { pc := some { ρ := [], n0 := 0, res := bo y30, σ' := [], e := [] } }), (26, { orc := .val (.bool false) })]) (by kernel_rfl) (allc (congrArg D.bool b27) (allc (congrArg D.bool b28) (allc (congrArg D.bool b29) (allc (C_retraceref03_Same p0.Vars p1.Vars y30 hy30) (allc (congrArg D.bool b31) all0))))) (fun a w hs => ⟨false, h, hs⟩)
            · replace h := cond_f b29 h
              refine At.region_end [4] [] _ (st' := ⟨[(4, bo false)], []⟩) (tips := [(5, { orc := .val (.bool true) }), (12, { orc := .val (.bool true) }), (19, { orc := .val (.bool false) })]) (by kernel_rfl) (allc (congrArg D.bool b27) (allc (congrArg D.bool b28) (allc (congrArg D.bool b29) all0))) (fun a w hs => ⟨false, h, hs⟩)
          · replace h := cond_f b28 h
            refine At.region_end [4] [] _ (st' := ⟨[(4, bo false)], []⟩) (tips := [(5, { orc := .val (.bool true) }), (12, { orc := .val (.bool false) })]) (by kernel_rfl) (allc (congrArg D.bool b27) (allc (congrArg D.bool b28) all0)) (fun a w hs => ⟨false, h, hs⟩)
        · replace h := cond_f b27 h
          refine At.region_end [4] [] _ (st' := ⟨[(4, bo false)], []⟩) (tips := [(5, { orc := .val (.bool false) })]) (by kernel_rfl) (allc (congrArg D.bool b27) all0) (fun a w hs => ⟨false, h, hs⟩)
      · intro x26 h
        replace h : F_retraceref22_Same_J2 x26 = some r := h
        rw [F_retraceref22_Same_J2] at h
        obtain rfl := some_eq h
        exact At.ret fun a w hs => ret_ok hR (ρ := []) (gs := []) (by kernel_rfl) all0 (by kernel_rfl) rfl rfl a w hs _ (.inl rfl)
set_option maxRecDepth 100000 in
theorem C_retracelaw25_OfferMeets (p0 : T_api_Code) (p1 : T_api_Proc) (p2 : Int) (p3 : Int) (r : Bool) (h : F_retracelaw25_OfferMeets p0 p1 p2 p3 = some r) : FnOK Try.prog 5 [.agg (T_api_Code.pvs p0), .agg (T_api_Proc.pvs p1), i64 p2, i64 p3] [] (bo r) [] [] := by
  rw [F_retracelaw25_OfferMeets] at h
  refine FnOK.intro Try.func5 rfl (by kernel_rfl) (by kernel_rfl) fun E gv R hR => ?_
  refine At.seq ?_
  refine At.region_end [2, 3, 4, 5] [0, 1] _ (st' := ⟨[(2, i64 p2), (3, i64 p3), (4, .ptr 0 0), (5, .ptr 1 0)], [.blk 26 (T_api_Code.pvs p0), .blk 38 (T_api_Proc.pvs p1)]⟩) (tips := []) (by kernel_rfl) all0 (norm ?_)
  refine At.seq ?_
  refine At.seq ?_
  obtain ⟨y7, hy7, h⟩ := bind_some h
  refine At.region_end [2, 3, 4, 5, 16] [0, 1] _ (st' := ⟨[(2, i64 p2), (3, i64 p3), (4, .ptr 0 0), (5, .ptr 1 0), (16, bo (!y7))], [.blk 26 (T_api_Code.pvs p0), .blk 38 (T_api_Proc.pvs p1)]⟩) (tips := [(3, { pc := some { ρ := [2], n0 := 1, res := bo y7, σ' := [.row 38 11 (encL T_api_Proc.enc ([p1]))], e := [0] } })]) (by kernel_rfl) (allc (C_retracelaw25_small_v2 p0 ([p1]) y7 hy7) all0) (norm ?_)
  refine At.cond (!y7) (by kernel_rfl) (fun b8 => ?_) (fun b8 => ?_)
  · replace h := cond_t b8 h
    refine At.seq ?_
    obtain ⟨y10, hy10, h⟩ := bind_some h
    refine At.region_end [8] [] _ (st' := ⟨[(8, bo y10)], []⟩) (tips := [(0, { pc := some { ρ := [], n0 := 0, res := bo y10, σ' := [], e := [] } })]) (by kernel_rfl) (allc (C_retracelaw25_live y10 hy10) all0) (norm ?_)
    obtain rfl := some_eq h
    exact At.ret fun a w hs => ret_ok hR (ρ := []) (gs := []) (by kernel_rfl) all0 (by kernel_rfl) rfl rfl a w hs _ (.inl rfl)
  · replace h := cond_f b8 h
    refine At.nar [2, 3, 4, 5] [0, 1] (st' := ⟨[(2, i64 p2), (3, i64 p3), (4, .ptr 0 0), (5, .ptr 1 0)], [.blk 26 (T_api_Code.pvs p0), .blk 38 (T_api_Proc.pvs p1)]⟩) (by kernel_rfl) ?_
    refine At.skip (norm ?_)
    refine At.seq ?_
    obtain ⟨g12, h⟩ := grd_some h
    refine At.region_end [2, 3, 4, 5, 9] [0, 1, 2] _ (st' := ⟨[(2, i64 p2), (3, i64 p3), (4, .ptr 0 0), (5, .ptr 1 0), (9, .row 2 ((([] : List Int) ++ p1.Vars)).length)], [.blk 26 (T_api_Code.pvs p0), .blk 38 (T_api_Proc.pvs p1), .row 3 1 (encL (eInt .i64) (([] : List Int) ++ p1.Vars))]⟩) (tips := [(3, { form := some ((([] : List Int) ++ p1.Vars).length, encL (eInt .i64) (([] : List Int) ++ p1.Vars)) })]) (by kernel_rfl) (allc (len_app ([] : List Int) p1.Vars) (allc (encL_app (eInt .i64) ([] : List Int) p1.Vars) (allc (app_ok (he_int .i64) (by decide) g12) (allc (encL_len (he_int .i64) p1.Vars) all0)))) (norm ?_)
    refine At.seq ?_
    obtain ⟨y14, hy14, h⟩ := bind_some h
    refine At.region_end [2, 3, 4, 5, 9, 10] [0, 1, 2, 3] _ (st' := ⟨[(2, i64 p2), (3, i64 p3), (4, .ptr 0 0), (5, .ptr 1 0), (9, .row 2 ((([] : List Int) ++ p1.Vars)).length), (10, .ptr 3 0)], [.blk 26 (T_api_Code.pvs p0), .blk 38 (T_api_Proc.pvs p1), .row 3 1 (encL (eInt .i64) (([] : List Int) ++ p1.Vars)), .blk 38 (T_api_Proc.pvs y14)]⟩) (tips := [(4, { pc := some { ρ := [], n0 := 0, res := .agg (T_api_Proc.pvs y14), σ' := [], e := [] } })]) (by kernel_rfl) (allc (C_offer_Met p0 p1 p2 p3 y14 hy14) all0) (norm ?_)
    refine At.seq ?_
    refine At.seq ?_
    obtain ⟨y22, hy22, h⟩ := bind_some h
    obtain ⟨y23, hy23, h⟩ := bind_some h
    refine At.draw_end mixedOrd 0 [5, 9, 34] [1, 2] _ (st' := ⟨[(5, .ptr 0 0), (9, .row 1 ((([] : List Int) ++ p1.Vars)).length), (34, bo (!y23))], [.blk 38 (T_api_Proc.pvs p1), .row 3 1 (encL (eInt .i64) (([] : List Int) ++ p1.Vars))]⟩) (tips := [(0, { T := [3], r := 4 }), (1, { T := [0], r := 4 }), (2, { T := [1], r := 4 }), (5, { tip := { pc := some { ρ := [], n0 := 0, res := .agg (T_api_Proc.pvs y22), σ' := [], e := [] } }, r := 4 }), (6, { tip := { pc := some { ρ := [], n0 := 0, res := bo y23, σ' := [], e := [] } }, r := 4 })]) (by kernel_rfl) (allc (C_retraceref25_Met p0 p1 p2 p3 y22 hy22) (allc (C_retraceref22_Same y14 y22 y23 hy23) all0)) (norm ?_)
    refine At.cond (!y23) (by kernel_rfl) (fun b24 => ?_) (fun b24 => ?_)
    · replace h := cond_t b24 h
      refine At.seq ?_
      refine At.region_end [8] [] _ (st' := ⟨[(8, bo false)], []⟩) (tips := []) (by kernel_rfl) all0 (norm ?_)
      obtain rfl := some_eq h
      exact At.ret fun a w hs => ret_ok hR (ρ := []) (gs := []) (by kernel_rfl) all0 (by kernel_rfl) rfl rfl a w hs _ (.inl rfl)
    · replace h := cond_f b24 h
      refine At.nar [5, 9] [0, 1] (st' := ⟨[(5, .ptr 0 0), (9, .row 1 ((([] : List Int) ++ p1.Vars)).length)], [.blk 38 (T_api_Proc.pvs p1), .row 3 1 (encL (eInt .i64) (([] : List Int) ++ p1.Vars))]⟩) (by kernel_rfl) ?_
      refine At.skip (norm ?_)
      refine At.seq ?_
      obtain ⟨g26, h⟩ := grd_some h
      refine At.region_end [5, 9] [0, 2, 1] _ (st' := ⟨[(5, .ptr 0 0), (9, .row 2 ((([] : List Int) ++ p1.Vars)).length)], [.blk 38 [i64 p1.Def, i64 p1.At, .row 1 ((([] : List Int) ++ p1.Vars)).length, i64 p1.Fuel, i64 p1.Mode, i64 p1.Chan, i64 p1.Val, i64 p1.Slot, i64 p1.Until, i64 p1.Since, lv T_api_Alt.enc p1.Alts], .row 3 1 (encL (eInt .i64) (([] : List Int) ++ p1.Vars)), .row 3 1 (encL (eInt .i64) (([] : List Int) ++ p1.Vars))]⟩) (tips := [(3, { form := some ((([] : List Int) ++ p1.Vars).length, encL (eInt .i64) (([] : List Int) ++ p1.Vars)) })]) (by kernel_rfl) (allc (len_app ([] : List Int) p1.Vars) (allc (encL_app (eInt .i64) ([] : List Int) p1.Vars) (allc (app_ok (he_int .i64) (by decide) g26) (allc (encL_len (he_int .i64) p1.Vars) all0)))) (norm ?_)
      refine At.seq ?_
      refine At.seq ?_
      refine At.region_end [5, 9, 11] [0, 1, 2] _ (st' := ⟨[(5, .ptr 0 0), (9, .row 2 ((([] : List Int) ++ p1.Vars)).length), (11, i64 0)], [.blk 38 [i64 p1.Def, i64 p1.At, .row 1 ((([] : List Int) ++ p1.Vars)).length, i64 p1.Fuel, i64 p1.Mode, i64 p1.Chan, i64 p1.Val, i64 p1.Slot, i64 p1.Until, i64 p1.Since, lv T_api_Alt.enc p1.Alts], .row 3 1 (encL (eInt .i64) (([] : List Int) ++ p1.Vars)), .row 3 1 (encL (eInt .i64) (([] : List Int) ++ p1.Vars))]⟩) (tips := []) (by kernel_rfl) all0 (norm ?_)
      refine At.block ?_
      refine At.loop (fun s : (Int) => F_retracelaw25_OfferMeets_L1 p1 s) (fun s : (Int) => ⟨[(5, .ptr 0 0), (9, .row 2 ((([] : List Int) ++ p1.Vars)).length), (11, i64 s)], [.blk 38 [i64 p1.Def, i64 p1.At, .row 1 ((([] : List Int) ++ p1.Vars)).length, i64 p1.Fuel, i64 p1.Mode, i64 p1.Chan, i64 p1.Val, i64 p1.Slot, i64 p1.Until, i64 p1.Since, lv T_api_Alt.enc p1.Alts], .row 3 1 (encL (eInt .i64) (([] : List Int) ++ p1.Vars)), .row 3 1 (encL (eInt .i64) (([] : List Int) ++ p1.Vars))]⟩) r 0 h ?_
      intro x46 oo47 h f48
      replace h : F_retracelaw25_OfferMeets_L1 p1 x46 = some oo47 := h
      rw [F_retracelaw25_OfferMeets_L1] at h
      refine At.seq ?_
      refine At.seq ?_
      refine At.region_end [5, 9, 11, 43] [0, 1, 2] _ (st' := ⟨[(5, .ptr 0 0), (9, .row 2 ((([] : List Int) ++ p1.Vars)).length), (11, i64 x46), (43, bo (decide (x46 < (((([] : List Int) ++ p1.Vars)).length : Int))))], [.blk 38 [i64 p1.Def, i64 p1.At, .row 1 ((([] : List Int) ++ p1.Vars)).length, i64 p1.Fuel, i64 p1.Mode, i64 p1.Chan, i64 p1.Val, i64 p1.Slot, i64 p1.Until, i64 p1.Since, lv T_api_Alt.enc p1.Alts], .row 3 1 (encL (eInt .i64) (([] : List Int) ++ p1.Vars)), .row 3 1 (encL (eInt .i64) (([] : List Int) ++ p1.Vars))]⟩) (tips := []) (by kernel_rfl) all0 (norm ?_)
      refine At.cond (decide (x46 < (((([] : List Int) ++ p1.Vars)).length : Int))) (by kernel_rfl) (fun b50 => ?_) (fun b50 => ?_)
      · replace h := cond_t b50 h
        refine At.nar [5, 9, 11] [0, 1, 2] (st' := ⟨[(5, .ptr 0 0), (9, .row 2 ((([] : List Int) ++ p1.Vars)).length), (11, i64 x46)], [.blk 38 [i64 p1.Def, i64 p1.At, .row 1 ((([] : List Int) ++ p1.Vars)).length, i64 p1.Fuel, i64 p1.Mode, i64 p1.Chan, i64 p1.Val, i64 p1.Slot, i64 p1.Until, i64 p1.Since, lv T_api_Alt.enc p1.Alts], .row 3 1 (encL (eInt .i64) (([] : List Int) ++ p1.Vars)), .row 3 1 (encL (eInt .i64) (([] : List Int) ++ p1.Vars))]⟩) (by kernel_rfl) ?_
        refine At.skip (norm ?_)
        refine At.seq ?_
        refine At.block ?_
        refine At.seq ?_
        obtain ⟨y58, hy58, h⟩ := bind_some h
        obtain ⟨y59, hy59, h⟩ := bind_some h
        refine At.draw_end mixedOrd 0 [5, 9, 11, 55] [0, 1, 2] _ (st' := ⟨[(5, .ptr 0 0), (9, .row 2 ((([] : List Int) ++ p1.Vars)).length), (11, i64 x46), (55, bo (y58 != y59))], [.blk 38 [i64 p1.Def, i64 p1.At, .row 1 ((([] : List Int) ++ p1.Vars)).length, i64 p1.Fuel, i64 p1.Mode, i64 p1.Chan, i64 p1.Val, i64 p1.Slot, i64 p1.Until, i64 p1.Since, lv T_api_Alt.enc p1.Alts], .row 3 1 (encL (eInt .i64) (([] : List Int) ++ p1.Vars)), .row 3 1 (encL (eInt .i64) (([] : List Int) ++ p1.Vars))]⟩) (tips := [(0, { r := 3 }), (1, { T := [0], r := 3 }), (3, { r := 3 }), (4, { tip := { orc := .val (.int .i64 y58) }, T := [1], r := 3 }), (5, { r := 3 }), (7, { r := 3 }), (8, { tip := { orc := .val (.int .i64 y59) }, T := [2], r := 3 })]) (by kernel_rfl) (allc ((rAt_of (he_int .i64) (d := .int .i64 y58) hy58 rfl).1) (allc ((rAt_of (he_int .i64) (d := .int .i64 y58) hy58 rfl).2) (allc ((rAt_of (he_int .i64) (d := .int .i64 y59) hy59 rfl).1) (allc ((rAt_of (he_int .i64) (d := .int .i64 y59) hy59 rfl).2) all0)))) (norm ?_)
        refine At.cond (y58 != y59) (by kernel_rfl) (fun b60 => ?_) (fun b60 => ?_)
        · replace h := cond_t b60 h
          refine At.seq ?_
          refine At.region_end [8] [] _ (st' := ⟨[(8, bo false)], []⟩) (tips := []) (by kernel_rfl) all0 (norm ?_)
          obtain ⟨r61, h, e62⟩ := map_inr h
          rw [f48 _ e62] at h
          obtain rfl := some_eq h
          exact At.ret fun a w hs => ret_ok hR (ρ := []) (gs := []) (by kernel_rfl) all0 (by kernel_rfl) rfl rfl a w hs _ (.inl rfl)
        · replace h := cond_f b60 h
          refine At.nar [5, 9, 11] [0, 1, 2] (st' := ⟨[(5, .ptr 0 0), (9, .row 2 ((([] : List Int) ++ p1.Vars)).length), (11, i64 x46)], [.blk 38 [i64 p1.Def, i64 p1.At, .row 1 ((([] : List Int) ++ p1.Vars)).length, i64 p1.Fuel, i64 p1.Mode, i64 p1.Chan, i64 p1.Val, i64 p1.Slot, i64 p1.Until, i64 p1.Since, lv T_api_Alt.enc p1.Alts], .row 3 1 (encL (eInt .i64) (([] : List Int) ++ p1.Vars)), .row 3 1 (encL (eInt .i64) (([] : List Int) ++ p1.Vars))]⟩) (by kernel_rfl) ?_
          refine At.skip (norm ?_)
          refine At.region_end [5, 9, 11] [0, 1, 2] _ (st' := ⟨[(5, .ptr 0 0), (9, .row 2 ((([] : List Int) ++ p1.Vars)).length), (11, i64 (w64 (x46 + 1)))], [.blk 38 [i64 p1.Def, i64 p1.At, .row 1 ((([] : List Int) ++ p1.Vars)).length, i64 p1.Fuel, i64 p1.Mode, i64 p1.Chan, i64 p1.Val, i64 p1.Slot, i64 p1.Until, i64 p1.Since, lv T_api_Alt.enc p1.Alts], .row 3 1 (encL (eInt .i64) (([] : List Int) ++ p1.Vars)), .row 3 1 (encL (eInt .i64) (([] : List Int) ++ p1.Vars))]⟩) (tips := []) (by kernel_rfl) all0 (fun a w hs => ⟨_, (some_eq h).symm, hs⟩)
      · replace h := cond_f b50 h
        refine At.nar [] [] (st' := ⟨[], []⟩) (by kernel_rfl) ?_
        obtain ⟨r63, h, e64⟩ := map_inr h
        rw [f48 _ e64] at h
        refine At.exit (norm ?_)
        refine At.seq ?_
        obtain ⟨y66, hy66, h⟩ := bind_some h
        refine At.region_end [8] [] _ (st' := ⟨[(8, bo y66)], []⟩) (tips := [(0, { pc := some { ρ := [], n0 := 0, res := bo y66, σ' := [], e := [] } })]) (by kernel_rfl) (allc (C_retracelaw25_live y66 hy66) all0) (norm ?_)
        obtain rfl := some_eq h
        exact At.ret fun a w hs => ret_ok hR (ρ := []) (gs := []) (by kernel_rfl) all0 (by kernel_rfl) rfl rfl a w hs _ (.inl rfl)
set_option maxRecDepth 100000 in
theorem C_retracelaw25_OfferGone (p0 : T_api_Code) (p1 : T_api_Proc) (p2 : Int) (p3 : Int) (p4 : Int) (r : Bool) (h : F_retracelaw25_OfferGone p0 p1 p2 p3 p4 = some r) : FnOK Try.prog 6 [.agg (T_api_Code.pvs p0), .agg (T_api_Proc.pvs p1), i64 p2, i64 p3, i64 p4] [] (bo r) [] [] := by
  rw [F_retracelaw25_OfferGone] at h
  refine FnOK.intro Try.func6 rfl (by kernel_rfl) (by kernel_rfl) fun E gv R hR => ?_
  refine At.seq ?_
  refine At.region_end [2, 3, 4, 5, 6] [0, 1] _ (st' := ⟨[(2, i64 p2), (3, i64 p3), (4, i64 p4), (5, .ptr 0 0), (6, .ptr 1 0)], [.blk 26 (T_api_Code.pvs p0), .blk 38 (T_api_Proc.pvs p1)]⟩) (tips := []) (by kernel_rfl) all0 (norm ?_)
  refine At.seq ?_
  refine At.seq ?_
  obtain ⟨y7, hy7, h⟩ := bind_some h
  refine At.region_end [2, 3, 4, 5, 6, 23] [0, 1] _ (st' := ⟨[(2, i64 p2), (3, i64 p3), (4, i64 p4), (5, .ptr 0 0), (6, .ptr 1 0), (23, bo (!y7))], [.blk 26 (T_api_Code.pvs p0), .blk 38 (T_api_Proc.pvs p1)]⟩) (tips := [(3, { pc := some { ρ := [2], n0 := 1, res := bo y7, σ' := [.row 38 11 (encL T_api_Proc.enc ([p1]))], e := [0] } })]) (by kernel_rfl) (allc (C_retracelaw25_small_v2 p0 ([p1]) y7 hy7) all0) (norm ?_)
  refine At.cond (!y7) (by kernel_rfl) (fun b8 => ?_) (fun b8 => ?_)
  · replace h := cond_t b8 h
    refine At.seq ?_
    obtain ⟨y10, hy10, h⟩ := bind_some h
    refine At.region_end [10] [] _ (st' := ⟨[(10, bo y10)], []⟩) (tips := [(0, { pc := some { ρ := [], n0 := 0, res := bo y10, σ' := [], e := [] } })]) (by kernel_rfl) (allc (C_retracelaw25_live y10 hy10) all0) (norm ?_)
    obtain rfl := some_eq h
    exact At.ret fun a w hs => ret_ok hR (ρ := []) (gs := []) (by kernel_rfl) all0 (by kernel_rfl) rfl rfl a w hs _ (.inl rfl)
  · replace h := cond_f b8 h
    refine At.nar [2, 3, 4, 5, 6] [0, 1] (st' := ⟨[(2, i64 p2), (3, i64 p3), (4, i64 p4), (5, .ptr 0 0), (6, .ptr 1 0)], [.blk 26 (T_api_Code.pvs p0), .blk 38 (T_api_Proc.pvs p1)]⟩) (by kernel_rfl) ?_
    refine At.skip (norm ?_)
    refine At.seq ?_
    obtain ⟨y12, hy12, h⟩ := bind_some h
    refine At.region_end [2, 3, 4, 5, 6, 11, 12] [0, 1] _ (st' := ⟨[(2, i64 p2), (3, i64 p3), (4, i64 p4), (5, .ptr 0 0), (6, .ptr 1 0), (11, i64 y12.1), (12, bo y12.2)], [.blk 26 (T_api_Code.pvs p0), .blk 38 (T_api_Proc.pvs p1)]⟩) (tips := [(3, { pc := some { ρ := [], n0 := 0, res := .tup [i64 y12.1, bo y12.2], σ' := [], e := [] } })]) (by kernel_rfl) (allc (C_offer_Of p1 p2 p3 y12 hy12) all0) (norm ?_)
    refine At.seq ?_
    refine At.seq ?_
    refine At.region_end [2, 3, 4, 5, 6, 11, 33] [0, 1] _ (st' := ⟨[(2, i64 p2), (3, i64 p3), (4, i64 p4), (5, .ptr 0 0), (6, .ptr 1 0), (11, i64 y12.1), (33, bo (!y12.2))], [.blk 26 (T_api_Code.pvs p0), .blk 38 (T_api_Proc.pvs p1)]⟩) (tips := []) (by kernel_rfl) all0 (norm ?_)
    refine At.cond (!y12.2) (by kernel_rfl) (fun b19 => ?_) (fun b19 => ?_)
    · replace h := cond_t b19 h
      refine At.seqJ (S := Bool) (fun s => ⟨[(10, bo s)], []⟩) (fun s => F_retracelaw25_OfferGone_J1 s = some r) ?_ ?_
      · rcases tf (y12.1 == 0) with b23 | b23
        · replace h := cond_t b23 h
          obtain ⟨y24, hy24, h⟩ := bind_some h
          refine At.region_end [10] [] _ (st' := ⟨[(10, bo y24)], []⟩) (tips := [(2, { orc := .val (.bool true) }), (3, { pc := some { ρ := [], n0 := 0, res := bo y24, σ' := [], e := [] } })]) (by kernel_rfl) (allc (congrArg D.bool b23) (allc (C_retracelaw25_live y24 hy24) all0)) (fun a w hs => ⟨y24, h, hs⟩)
        · replace h := cond_f b23 h
          refine At.region_end [10] [] _ (st' := ⟨[(10, bo false)], []⟩) (tips := [(2, { orc := .val (.bool false) })]) (by kernel_rfl) (allc (congrArg D.bool b23) all0) (fun a w hs => ⟨false, h, hs⟩)
      · intro x22 h
        replace h : F_retracelaw25_OfferGone_J1 x22 = some r := h
        rw [F_retracelaw25_OfferGone_J1] at h
        obtain rfl := some_eq h
        exact At.ret fun a w hs => ret_ok hR (ρ := []) (gs := []) (by kernel_rfl) all0 (by kernel_rfl) rfl rfl a w hs _ (.inl rfl)
    · replace h := cond_f b19 h
      refine At.nar [2, 3, 4, 5, 6, 11] [0, 1] (st' := ⟨[(2, i64 p2), (3, i64 p3), (4, i64 p4), (5, .ptr 0 0), (6, .ptr 1 0), (11, i64 y12.1)], [.blk 26 (T_api_Code.pvs p0), .blk 38 (T_api_Proc.pvs p1)]⟩) (by kernel_rfl) ?_
      refine At.skip (norm ?_)
      refine At.seq ?_
      obtain ⟨y26, hy26, h⟩ := bind_some h
      refine At.region_end [2, 3, 4, 5, 6, 11, 13] [0, 1, 2] _ (st' := ⟨[(2, i64 p2), (3, i64 p3), (4, i64 p4), (5, .ptr 0 0), (6, .ptr 1 0), (11, i64 y12.1), (13, .ptr 2 0)], [.blk 26 (T_api_Code.pvs p0), .blk 38 (T_api_Proc.pvs p1), .blk 38 (T_api_Proc.pvs y26)]⟩) (tips := [(4, { pc := some { ρ := [], n0 := 0, res := .agg (T_api_Proc.pvs y26), σ' := [], e := [] } })]) (by kernel_rfl) (allc (C_offer_Met p0 p1 y12.1 p4 y26 hy26) all0) (norm ?_)
      refine At.seq ?_
      obtain ⟨y28, hy28, h⟩ := bind_some h
      refine At.region_end [2, 4, 5, 6, 11, 13, 15] [0, 1, 2] _ (st' := ⟨[(2, i64 p2), (4, i64 p4), (5, .ptr 0 0), (6, .ptr 1 0), (11, i64 y12.1), (13, .ptr 2 0), (15, bo y28.2)], [.blk 26 (T_api_Code.pvs p0), .blk 38 (T_api_Proc.pvs p1), .blk 38 (T_api_Proc.pvs y26)]⟩) (tips := [(3, { pc := some { ρ := [], n0 := 0, res := .tup [i64 y28.1, bo y28.2], σ' := [], e := [] } })]) (by kernel_rfl) (allc (C_offer_Of y26 p2 p3 y28 hy28) all0) (norm ?_)
      refine At.seq ?_
      refine At.seqJ (S := Bool) (fun s => ⟨[(2, i64 p2), (4, i64 p4), (6, .ptr 0 0), (11, i64 y12.1), (13, .ptr 1 0), (81, bo s)], [.blk 38 (T_api_Proc.pvs p1), .blk 38 (T_api_Proc.pvs y26)]⟩) (fun s => F_retracelaw25_OfferGone_J2 p1 p2 p4 y12 y26 s = some r) ?_ ?_
      · obtain ⟨y141, hy141, h⟩ := bind_some h
        rcases tf (!y141) with b142 | b142
        · replace h := cond_t b142 h
          refine At.region_end [2, 4, 6, 11, 13, 81] [1, 2] _ (st' := ⟨[(2, i64 p2), (4, i64 p4), (6, .ptr 0 0), (11, i64 y12.1), (13, .ptr 1 0), (81, bo true)], [.blk 38 (T_api_Proc.pvs p1), .blk 38 (T_api_Proc.pvs y26)]⟩) (tips := [(2, { pc := some { ρ := [], n0 := 0, res := bo y141, σ' := [], e := [] } }), (4, { orc := .val (.bool true) })]) (by kernel_rfl) (allc (C_retraceref22_Is p0 y26 y141 hy141) (allc (congrArg D.bool b142) all0)) (fun a w hs => ⟨true, h, hs⟩)
        · replace h := cond_f b142 h
          rcases tf y28.2 with b143 | b143
          · replace h := cond_t b143 h
            refine At.region_end [2, 4, 6, 11, 13, 81] [1, 2] _ (st' := ⟨[(2, i64 p2), (4, i64 p4), (6, .ptr 0 0), (11, i64 y12.1), (13, .ptr 1 0), (81, bo true)], [.blk 38 (T_api_Proc.pvs p1), .blk 38 (T_api_Proc.pvs y26)]⟩) (tips := [(2, { pc := some { ρ := [], n0 := 0, res := bo y141, σ' := [], e := [] } }), (4, { orc := .val (.bool false) }), (7, { orc := .val (.bool true) })]) (by kernel_rfl) (allc (C_retraceref22_Is p0 y26 y141 hy141) (allc (congrArg D.bool b142) (allc (congrArg D.bool b143) all0))) (fun a w hs => ⟨true, h, hs⟩)
          · replace h := cond_f b143 h
            rcases tf (y26.Mode != 0) with b144 | b144
            · replace h := cond_t b144 h
              rcases tf (y26.Mode != 5) with b145 | b145
              · replace h := cond_t b145 h
                refine At.region_end [2, 4, 6, 11, 13, 81] [1, 2] _ (st' := ⟨[(2, i64 p2), (4, i64 p4), (6, .ptr 0 0), (11, i64 y12.1), (13, .ptr 1 0), (81, bo true)], [.blk 38 (T_api_Proc.pvs p1), .blk 38 (T_api_Proc.pvs y26)]⟩) (tips := [(2, { pc := some { ρ := [], n0 := 0, res := bo y141, σ' := [], e := [] } }), (4, { orc := .val (.bool false) }), (7, { orc := .val (.bool false) }), (11, { orc := .val (.bool true) }), (17, { orc := .val (.bool true) })]) (by kernel_rfl) (allc (C_retraceref22_Is p0 y26 y141 hy141) (allc (congrArg D.bool b142) (allc (congrArg D.bool b143) (allc (congrArg D.bool b144) (allc (congrArg D.bool b145) all0))))) (fun a w hs => ⟨true, h, hs⟩)
              · replace h := cond_f b145 h
                rcases tf (y26.Fuel != p1.Fuel) with b146 | b146
                · replace h := cond_t b146 h
                  refine At.region_end [2, 4, 6, 11, 13, 81] [1, 2] _ (st' := ⟨[(2, i64 p2), (4, i64 p4), (6, .ptr 0 0), (11, i64 y12.1), (13, .ptr 1 0), (81, bo true)], [.blk 38 (T_api_Proc.pvs p1), .blk 38 (T_api_Proc.pvs y26)]⟩) (tips := [(2, { pc := some { ρ := [], n0 := 0, res := bo y141, σ' := [], e := [] } }), (4, { orc := .val (.bool false) }), (7, { orc := .val (.bool false) }), (11, { orc := .val (.bool true) }), (17, { orc := .val (.bool false) }), (24, { orc := .val (.bool true) })]) (by kernel_rfl) (allc (C_retraceref22_Is p0 y26 y141 hy141) (allc (congrArg D.bool b142) (allc (congrArg D.bool b143) (allc (congrArg D.bool b144) (allc (congrArg D.bool b145) (allc (congrArg D.bool b146) all0)))))) (fun a w hs => ⟨true, h, hs⟩)
                · replace h := cond_f b146 h
                  refine At.region_end [2, 4, 6, 11, 13, 81] [1, 2] _ (st' := ⟨[(2, i64 p2), (4, i64 p4), (6, .ptr 0 0), (11, i64 y12.1), (13, .ptr 1 0), (81, bo (y26.Def != p1.Def))], [.blk 38 (T_api_Proc.pvs p1), .blk 38 (T_api_Proc.pvs y26)]⟩) (tips := [(2, { pc := some { ρ := [], n0 := 0, res := bo y141, σ' := [], e := [] } }), (4, { orc := .val (.bool false) }), (7, { orc := .val (.bool false) }), (11, { orc := .val (.bool true) }), (17, { orc := .val (.bool false) }), (24, { orc := .val (.bool false) })]) (by kernel_rfl) (allc (C_retraceref22_Is p0 y26 y141 hy141) (allc (congrArg D.bool b142) (allc (congrArg D.bool b143) (allc (congrArg D.bool b144) (allc (congrArg D.bool b145) (allc (congrArg D.bool b146) all0)))))) (fun a w hs => ⟨(y26.Def != p1.Def), h, hs⟩)
            · replace h := cond_f b144 h
              rcases tf (y26.Fuel != p1.Fuel) with b147 | b147
              · replace h := cond_t b147 h
                refine At.region_end [2, 4, 6, 11, 13, 81] [1, 2] _ (st' := ⟨[(2, i64 p2), (4, i64 p4), (6, .ptr 0 0), (11, i64 y12.1), (13, .ptr 1 0), (81, bo true)], [.blk 38 (T_api_Proc.pvs p1), .blk 38 (T_api_Proc.pvs y26)]⟩) (tips := [(2, { pc := some { ρ := [], n0 := 0, res := bo y141, σ' := [], e := [] } }), (4, { orc := .val (.bool false) }), (7, { orc := .val (.bool false) }), (11, { orc := .val (.bool false) }), (24, { orc := .val (.bool true) })]) (by kernel_rfl) (allc (C_retraceref22_Is p0 y26 y141 hy141) (allc (congrArg D.bool b142) (allc (congrArg D.bool b143) (allc (congrArg D.bool b144) (allc (congrArg D.bool b147) all0))))) (fun a w hs => ⟨true, h, hs⟩)
              · replace h := cond_f b147 h
                refine At.region_end [2, 4, 6, 11, 13, 81] [1, 2] _ (st' := ⟨[(2, i64 p2), (4, i64 p4), (6, .ptr 0 0), (11, i64 y12.1), (13, .ptr 1 0), (81, bo (y26.Def != p1.Def))], [.blk 38 (T_api_Proc.pvs p1), .blk 38 (T_api_Proc.pvs y26)]⟩) (tips := [(2, { pc := some { ρ := [], n0 := 0, res := bo y141, σ' := [], e := [] } }), (4, { orc := .val (.bool false) }), (7, { orc := .val (.bool false) }), (11, { orc := .val (.bool false) }), (24, { orc := .val (.bool false) })]) (by kernel_rfl) (allc (C_retraceref22_Is p0 y26 y141 hy141) (allc (congrArg D.bool b142) (allc (congrArg D.bool b143) (allc (congrArg D.bool b144) (allc (congrArg D.bool b147) all0))))) (fun a w hs => ⟨(y26.Def != p1.Def), h, hs⟩)
      · intro x52 h
        replace h : F_retracelaw25_OfferGone_J2 p1 p2 p4 y12 y26 x52 = some r := h
        rw [F_retracelaw25_OfferGone_J2] at h
        refine At.cond x52 (by kernel_rfl) (fun b53 => ?_) (fun b53 => ?_)
        · replace h := cond_t b53 h
          refine At.seq ?_
          refine At.region_end [10] [] _ (st' := ⟨[(10, bo false)], []⟩) (tips := []) (by kernel_rfl) all0 (norm ?_)
          obtain rfl := some_eq h
          exact At.ret fun a w hs => ret_ok hR (ρ := []) (gs := []) (by kernel_rfl) all0 (by kernel_rfl) rfl rfl a w hs _ (.inl rfl)
        · replace h := cond_f b53 h
          refine At.nar [2, 4, 6, 11, 13] [0, 1] (st' := ⟨[(2, i64 p2), (4, i64 p4), (6, .ptr 0 0), (11, i64 y12.1), (13, .ptr 1 0)], [.blk 38 (T_api_Proc.pvs p1), .blk 38 (T_api_Proc.pvs y26)]⟩) (by kernel_rfl) ?_
          refine At.skip (norm ?_)
          refine At.seq ?_
          refine At.region_end [2, 4, 6, 11, 13, 16] [0, 1] _ (st' := ⟨[(2, i64 p2), (4, i64 p4), (6, .ptr 0 0), (11, i64 y12.1), (13, .ptr 1 0), (16, i64 p1.Slot)], [.blk 38 (T_api_Proc.pvs p1), .blk 38 (T_api_Proc.pvs y26)]⟩) (tips := []) (by kernel_rfl) all0 (norm ?_)
          refine At.seqJ (S := Int) (fun s => ⟨[(2, i64 p2), (4, i64 p4), (6, .ptr 0 0), (13, .ptr 1 0), (16, i64 s)], [.blk 38 (T_api_Proc.pvs p1), .blk 38 (T_api_Proc.pvs y26)]⟩) (fun s => F_retracelaw25_OfferGone_J3 p1 p2 p4 y26 s = some r) ?_ ?_
          · refine At.seqJ (S := Bool) (fun s => ⟨[(2, i64 p2), (4, i64 p4), (6, .ptr 0 0), (11, i64 y12.1), (13, .ptr 1 0), (16, i64 p1.Slot), (92, bo s)], [.blk 38 (T_api_Proc.pvs p1), .blk 38 (T_api_Proc.pvs y26)]⟩) (fun s => F_retracelaw25_OfferGone_J7 p1 p2 p4 y12 y26 s = some r) ?_ ?_
            · rcases tf (decide (0 ≤ y12.1)) with b140 | b140
              · replace h := cond_t b140 h
                refine At.region_end [2, 4, 6, 11, 13, 16, 92] [0, 1] _ (st' := ⟨[(2, i64 p2), (4, i64 p4), (6, .ptr 0 0), (11, i64 y12.1), (13, .ptr 1 0), (16, i64 p1.Slot), (92, bo (decide (y12.1 < ((p1.Alts).length : Int))))], [.blk 38 (T_api_Proc.pvs p1), .blk 38 (T_api_Proc.pvs y26)]⟩) (tips := [(2, { orc := .val (.bool true) })]) (by kernel_rfl) (allc (congrArg D.bool b140) all0) (fun a w hs => ⟨(decide (y12.1 < ((p1.Alts).length : Int))), h, hs⟩)
              · replace h := cond_f b140 h
                refine At.region_end [2, 4, 6, 11, 13, 16, 92] [0, 1] _ (st' := ⟨[(2, i64 p2), (4, i64 p4), (6, .ptr 0 0), (11, i64 y12.1), (13, .ptr 1 0), (16, i64 p1.Slot), (92, bo false)], [.blk 38 (T_api_Proc.pvs p1), .blk 38 (T_api_Proc.pvs y26)]⟩) (tips := [(2, { orc := .val (.bool false) })]) (by kernel_rfl) (allc (congrArg D.bool b140) all0) (fun a w hs => ⟨false, h, hs⟩)
            · intro x137 h
              replace h : F_retracelaw25_OfferGone_J7 p1 p2 p4 y12 y26 x137 = some r := h
              rw [F_retracelaw25_OfferGone_J7] at h
              refine At.cond x137 (by kernel_rfl) (fun b138 => ?_) (fun b138 => ?_)
              · replace h := cond_t b138 h
                obtain ⟨y139, hy139, h⟩ := bind_some h
                refine At.region_end [2, 4, 6, 13, 16] [0, 1] _ (st' := ⟨[(2, i64 p2), (4, i64 p4), (6, .ptr 0 0), (13, .ptr 1 0), (16, i64 y139.Slot)], [.blk 38 (T_api_Proc.pvs p1), .blk 38 (T_api_Proc.pvs y26)]⟩) (tips := [(3, { orc := .cells (T_api_Alt.enc y139) })]) (by kernel_rfl) (allc (elemAt_of T_api_Alt.enc_len hy139) all0) (fun a w hs => ⟨y139.Slot, h, hs⟩)
              · replace h := cond_f b138 h
                refine At.nar [2, 4, 6, 13, 16] [0, 1] (st' := ⟨[(2, i64 p2), (4, i64 p4), (6, .ptr 0 0), (13, .ptr 1 0), (16, i64 p1.Slot)], [.blk 38 (T_api_Proc.pvs p1), .blk 38 (T_api_Proc.pvs y26)]⟩) (by kernel_rfl) ?_
                refine At.skip (fun a w hs => ⟨p1.Slot, h, hs⟩)
          · intro x59 h
            replace h : F_retracelaw25_OfferGone_J3 p1 p2 p4 y26 x59 = some r := h
            rw [F_retracelaw25_OfferGone_J3] at h
            refine At.seq ?_
            refine At.seq ?_
            refine At.region_end [2, 4, 6, 13, 16, 17] [0, 1] _ (st' := ⟨[(2, i64 p2), (4, i64 p4), (6, .ptr 0 0), (13, .ptr 1 0), (16, i64 x59), (17, i64 0)], [.blk 38 (T_api_Proc.pvs p1), .blk 38 (T_api_Proc.pvs y26)]⟩) (tips := []) (by kernel_rfl) all0 (norm ?_)
            refine At.block ?_
            refine At.loop (fun s : (Int) => F_retracelaw25_OfferGone_L6 p1 p2 p4 y26 x59 s) (fun s : (Int) => ⟨[(2, i64 p2), (4, i64 p4), (6, .ptr 0 0), (13, .ptr 1 0), (16, i64 x59), (17, i64 s)], [.blk 38 (T_api_Proc.pvs p1), .blk 38 (T_api_Proc.pvs y26)]⟩) r 0 h ?_
            intro x97 oo98 h f99
            replace h : F_retracelaw25_OfferGone_L6 p1 p2 p4 y26 x59 x97 = some oo98 := h
            rw [F_retracelaw25_OfferGone_L6] at h
            refine At.seq ?_
            refine At.seq ?_
            refine At.region_end [2, 4, 6, 13, 16, 17, 103] [0, 1] _ (st' := ⟨[(2, i64 p2), (4, i64 p4), (6, .ptr 0 0), (13, .ptr 1 0), (16, i64 x59), (17, i64 x97), (103, bo (decide (x97 < ((y26.Vars).length : Int))))], [.blk 38 (T_api_Proc.pvs p1), .blk 38 (T_api_Proc.pvs y26)]⟩) (tips := []) (by kernel_rfl) all0 (norm ?_)
            refine At.cond (decide (x97 < ((y26.Vars).length : Int))) (by kernel_rfl) (fun b101 => ?_) (fun b101 => ?_)
            · replace h := cond_t b101 h
              refine At.nar [2, 4, 6, 13, 16, 17] [0, 1] (st' := ⟨[(2, i64 p2), (4, i64 p4), (6, .ptr 0 0), (13, .ptr 1 0), (16, i64 x59), (17, i64 x97)], [.blk 38 (T_api_Proc.pvs p1), .blk 38 (T_api_Proc.pvs y26)]⟩) (by kernel_rfl) ?_
              refine At.skip (norm ?_)
              refine At.seq ?_
              refine At.block ?_
              refine At.seq ?_
              obtain ⟨y117, hy117, h⟩ := bind_some h
              refine At.region_end [2, 4, 6, 13, 16, 17, 18] [0, 1] _ (st' := ⟨[(2, i64 p2), (4, i64 p4), (6, .ptr 0 0), (13, .ptr 1 0), (16, i64 x59), (17, i64 x97), (18, i64 y117)], [.blk 38 (T_api_Proc.pvs p1), .blk 38 (T_api_Proc.pvs y26)]⟩) (tips := [(3, { orc := .cells ((eInt .i64) y117) })]) (by kernel_rfl) (allc (elemAt_of (he_int .i64) hy117) all0) (norm ?_)
              refine At.seqJ (S := Int) (fun s => ⟨[(2, i64 p2), (4, i64 p4), (6, .ptr 0 0), (13, .ptr 1 0), (16, i64 x59), (17, i64 x97), (18, i64 s)], [.blk 38 (T_api_Proc.pvs p1), .blk 38 (T_api_Proc.pvs y26)]⟩) (fun s => F_retracelaw25_OfferGone_J4 y26 x97 s = some oo98) ?_ ?_
              · refine At.seqJ (S := Bool) (fun s => ⟨[(2, i64 p2), (4, i64 p4), (6, .ptr 0 0), (13, .ptr 1 0), (16, i64 x59), (17, i64 x97), (18, i64 y117), (117, bo s)], [.blk 38 (T_api_Proc.pvs p1), .blk 38 (T_api_Proc.pvs y26)]⟩) (fun s => F_retracelaw25_OfferGone_J5 p4 y26 x97 y117 s = some oo98) ?_ ?_
                · rcases tf (p2 == 1) with b131 | b131
                  · replace h := cond_t b131 h
                    refine At.region_end [2, 4, 6, 13, 16, 17, 18, 117] [0, 1] _ (st' := ⟨[(2, i64 p2), (4, i64 p4), (6, .ptr 0 0), (13, .ptr 1 0), (16, i64 x59), (17, i64 x97), (18, i64 y117), (117, bo (x97 == x59))], [.blk 38 (T_api_Proc.pvs p1), .blk 38 (T_api_Proc.pvs y26)]⟩) (tips := [(2, { orc := .val (.bool true) })]) (by kernel_rfl) (allc (congrArg D.bool b131) all0) (fun a w hs => ⟨(x97 == x59), h, hs⟩)
                  · replace h := cond_f b131 h
                    refine At.region_end [2, 4, 6, 13, 16, 17, 18, 117] [0, 1] _ (st' := ⟨[(2, i64 p2), (4, i64 p4), (6, .ptr 0 0), (13, .ptr 1 0), (16, i64 x59), (17, i64 x97), (18, i64 y117), (117, bo false)], [.blk 38 (T_api_Proc.pvs p1), .blk 38 (T_api_Proc.pvs y26)]⟩) (tips := [(2, { orc := .val (.bool false) })]) (by kernel_rfl) (allc (congrArg D.bool b131) all0) (fun a w hs => ⟨false, h, hs⟩)
                · intro x129 h
                  replace h : F_retracelaw25_OfferGone_J5 p4 y26 x97 y117 x129 = some oo98 := h
                  rw [F_retracelaw25_OfferGone_J5] at h
                  refine At.cond x129 (by kernel_rfl) (fun b130 => ?_) (fun b130 => ?_)
                  · replace h := cond_t b130 h
                    refine At.region_end [2, 4, 6, 13, 16, 17, 18] [0, 1] _ (st' := ⟨[(2, i64 p2), (4, i64 p4), (6, .ptr 0 0), (13, .ptr 1 0), (16, i64 x59), (17, i64 x97), (18, i64 p4)], [.blk 38 (T_api_Proc.pvs p1), .blk 38 (T_api_Proc.pvs y26)]⟩) (tips := []) (by kernel_rfl) all0 (fun a w hs => ⟨p4, h, hs⟩)
                  · replace h := cond_f b130 h
                    refine At.nar [2, 4, 6, 13, 16, 17, 18] [0, 1] (st' := ⟨[(2, i64 p2), (4, i64 p4), (6, .ptr 0 0), (13, .ptr 1 0), (16, i64 x59), (17, i64 x97), (18, i64 y117)], [.blk 38 (T_api_Proc.pvs p1), .blk 38 (T_api_Proc.pvs y26)]⟩) (by kernel_rfl) ?_
                    refine At.skip (fun a w hs => ⟨y117, h, hs⟩)
              · intro x122 h
                replace h : F_retracelaw25_OfferGone_J4 y26 x97 x122 = some oo98 := h
                rw [F_retracelaw25_OfferGone_J4] at h
                refine At.seq ?_
                obtain ⟨y124, hy124, h⟩ := bind_some h
                refine At.region_end [2, 4, 6, 13, 16, 17, 125] [0, 1] _ (st' := ⟨[(2, i64 p2), (4, i64 p4), (6, .ptr 0 0), (13, .ptr 1 0), (16, i64 x59), (17, i64 x97), (125, bo (y124 != x122))], [.blk 38 (T_api_Proc.pvs p1), .blk 38 (T_api_Proc.pvs y26)]⟩) (tips := [(3, { orc := .cells ((eInt .i64) y124) })]) (by kernel_rfl) (allc (elemAt_of (he_int .i64) hy124) all0) (norm ?_)
                refine At.cond (y124 != x122) (by kernel_rfl) (fun b125 => ?_) (fun b125 => ?_)
                · replace h := cond_t b125 h
                  refine At.seq ?_
                  refine At.region_end [10] [] _ (st' := ⟨[(10, bo false)], []⟩) (tips := []) (by kernel_rfl) all0 (norm ?_)
                  obtain ⟨r126, h, e127⟩ := map_inr h
                  rw [f99 _ e127] at h
                  obtain rfl := some_eq h
                  exact At.ret fun a w hs => ret_ok hR (ρ := []) (gs := []) (by kernel_rfl) all0 (by kernel_rfl) rfl rfl a w hs _ (.inl rfl)
                · replace h := cond_f b125 h
                  refine At.nar [2, 4, 6, 13, 16, 17] [0, 1] (st' := ⟨[(2, i64 p2), (4, i64 p4), (6, .ptr 0 0), (13, .ptr 1 0), (16, i64 x59), (17, i64 x97)], [.blk 38 (T_api_Proc.pvs p1), .blk 38 (T_api_Proc.pvs y26)]⟩) (by kernel_rfl) ?_
                  refine At.skip (norm ?_)
                  refine At.region_end [2, 4, 6, 13, 16, 17] [0, 1] _ (st' := ⟨[(2, i64 p2), (4, i64 p4), (6, .ptr 0 0), (13, .ptr 1 0), (16, i64 x59), (17, i64 (w64 (x97 + 1)))], [.blk 38 (T_api_Proc.pvs p1), .blk 38 (T_api_Proc.pvs y26)]⟩) (tips := []) (by kernel_rfl) all0 (fun a w hs => ⟨_, (some_eq h).symm, hs⟩)
            · replace h := cond_f b101 h
              refine At.nar [] [] (st' := ⟨[], []⟩) (by kernel_rfl) ?_
              obtain ⟨r132, h, e133⟩ := map_inr h
              rw [f99 _ e133] at h
              refine At.exit (norm ?_)
              refine At.seq ?_
              obtain ⟨y135, hy135, h⟩ := bind_some h
              refine At.region_end [10] [] _ (st' := ⟨[(10, bo y135)], []⟩) (tips := [(0, { pc := some { ρ := [], n0 := 0, res := bo y135, σ' := [], e := [] } })]) (by kernel_rfl) (allc (C_retracelaw25_live y135 hy135) all0) (norm ?_)
              obtain rfl := some_eq h
              exact At.ret fun a w hs => ret_ok hR (ρ := []) (gs := []) (by kernel_rfl) all0 (by kernel_rfl) rfl rfl a w hs _ (.inl rfl)
end Go.Ab
